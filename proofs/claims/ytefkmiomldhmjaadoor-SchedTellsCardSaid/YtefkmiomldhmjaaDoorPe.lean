/- Several texts in one. -/
import Derived.Test.YtefkmiomldhmjaaDoorPd
import Derived.Test.YtefkmiomldhmjaaDoorPb
/- The reference's start. -/
namespace Go.Proofs.YtefkmiomldhmjaaDoor
open Go.Sl
variable {S : Nat → Prop} {w0 : World} {η : Heap}
/-- The reference's state in memory: three lists of n numbers. -/
structure SD where
  wb : Nat
  wc : Nat
  wu : Array Value
  ob : Nat
  oc : Nat
  ou : Array Value
  lb : Nat
  lc : Nat
  lu : Array Value
abbrev stV (n : Nat) (d : SD) (used : Nat) : List Value := [.slice (some ⟨d.wb, 0, none⟩) n d.wc, .slice (some ⟨d.ob, 0, none⟩) n d.oc, .slice (some ⟨d.lb, 0, none⟩) n d.lc, .int .i64 (used : Int)]
abbrev stH (d : SD) (η : Heap) : Heap := cseg d.wb d.wu :: cseg d.ob d.ou :: cseg d.lb d.lu :: η
structure SOk (n : Nat) (d : SD) (s : St) : Prop where
  w : OIs d.wb d.wc n s.W d.wu
  o : OIs d.ob d.oc n s.O d.ou
  l : OIs d.lb d.lc n s.L d.lu
theorem intC_snoc {n : Nat} {f : Nat → Int} : intC n f ++ [.int .i64 (f n)] = intC (n + 1) f := by unfold intC; rw [List.range_succ, List.map_append]; rfl

set_option maxHeartbeats 2000000 in
theorem start_fn {a : Option Addr} {l : List NodeD} {c : Nat} (hn : Nodes S w0 [] a l) (hok : Ok l) :
    Rt Tryd.prog 57 [.slice a l.length c].toArray S w0 η (fun v η' => ∃ d, v = .agg (stV l.length d 0).toArray ∧ η' = stH d η ∧ SOk l.length d (startS l)) := by
  have hF := open_wide
  refine Rt.of (fn := Tryd.f57) Tryd.func57 rfl rfl ?_
  refine T.seq ?_
  refine T.region ?_
  refine TL.alloc hF rfl (fun b2 => ?_)
  refine TL.nil ?_
  refine TQ.then_n ?_
  refine T.seq ?_
  refine T.region ?_
  refine TL.alloc hF rfl (fun b3 => ?_)
  refine TL.nil ?_
  refine TQ.then_n ?_
  refine T.seq ?_
  refine T.seq ?_
  refine T.region ?_
  refine TL.assign hF rfl rfl ?_
  refine TL.nil ?_
  refine TQ.then_n ?_
  refine T.block ?_
  have hlen := hok.len
  have hpos := hok.pos
  refine T.hnil (T.hnil (T.hnil ?_))
  refine T.pick [3, 0, 1, 2, 4] [_, _, _, _, _] rfl rfl rfl ?_
  refine T.loop (ι := Nat × Option Addr × Nat × Seg × Option Addr × Nat × Seg × Option Addr × Nat × Seg) (fun i => i.1 ≤ l.length ∧ OSl 3 1 (.slice i.2.1 i.1 i.2.2.1) i.1 (intC i.1 (startS l).W) i.2.2.2.1 ∧ OSl 3 1 (.slice i.2.2.2.2.1 i.1 i.2.2.2.2.2.1) i.1 (intC i.1 (fun _ => -1)) i.2.2.2.2.2.2.1 ∧ OSl 3 1 (.slice i.2.2.2.2.2.2.2.1 i.1 i.2.2.2.2.2.2.2.2.1) i.1 (intC i.1 (fun _ => -1)) i.2.2.2.2.2.2.2.2.2) (fun i => [(0, .slice a l.length c), (2, ptr b2), (3, ptr b3), (4, .int .i64 (i.1 : Int))]) (fun i => [(b3, Obj.cells #[.slice i.2.1 i.1 i.2.2.1, .slice i.2.2.2.2.1 i.1 i.2.2.2.2.2.1, .slice i.2.2.2.2.2.2.2.1 i.1 i.2.2.2.2.2.2.2.2.1, .int .i64 0] 105 (0, 0))] :: i.2.2.2.1 :: i.2.2.2.2.2.2.1 :: i.2.2.2.2.2.2.2.2.2 :: [(b2, Obj.cells #[.slice none 0 0, .slice none 0 0, .slice none 0 0, .int .i64 0] 105 (0, 0))] :: η) (fun i => l.length - i.1) (0, none, 0, [], none, 0, [], none, 0, []) ⟨Nat.zero_le _, OSl.nil 3 1, OSl.nil 3 1, OSl.nil 3 1⟩ ⟨rfl, rfl, rfl, rfl, trivial⟩ rfl ?_
  rintro ⟨k, wa, wc, wg, oa, oc, og, la, lc, lg⟩ ⟨hk, how, hoo, hol⟩
  simp only at hk how hoo hol
  refine T.seq ?_
  refine T.seq ?_
  refine T.region ?_
  refine TL.move hF rfl rfl ?_
  refine TL.move hF rfl rfl ?_
  refine TL.len hF rfl rfl ?_
  refine TL.bin hF rfl rfl rfl rfl ?_
  refine TL.nil ?_
  refine TQ.then_n ?_
  first | refine T.cond_d rfl (fun ht9 => ?_) (fun ht9 => ?_) | refine T.cond _ rfl (fun ht9 => ?_) (fun ht9 => ?_)
  · refine T.skip ?_
    refine TQ.then_n ?_
    refine T.seq ?_
    refine T.block ?_
    refine T.seq ?_
    refine T.region ?_
    refine TL.assign hF rfl rfl ?_
    refine TL.nil ?_
    refine TQ.then_n ?_
    refine T.cut (ι := Unit) (fun _ => True) (fun _ => [(0, .slice a l.length c), (2, ptr b2), (3, ptr b3), (4, .int .i64 (k : Int)), (5, .int .i64 ((startS l).W k))]) (fun _ => [(b3, Obj.cells #[.slice wa k wc, .slice oa k oc, .slice la k lc, .int .i64 0] 105 (0, 0))] :: wg :: og :: lg :: [(b2, Obj.cells #[.slice none 0 0, .slice none 0 0, .slice none 0 0, .int .i64 0] 105 (0, 0))] :: η) ?_ ?_
    · refine T.seq ?_
      refine T.region ?_
      refine TL.move hF rfl rfl ?_
      refine TL.move hF rfl rfl ?_
      refine TL.indexAddr hF rfl rfl (hn.ad (i := k) (by omega)) (by omega) (by omega) rfl ?_
      refine TL.fieldAddr hF rfl rfl ?_
      refine TL.load hF rfl (hn.ro.at (i := k) (by omega) 0 rfl) rfl ?_
      refine TL.bin hF rfl rfl rfl rfl ?_
      refine TL.nil ?_
      refine TQ.then_n ?_
      first | refine T.cond_d rfl (fun ht17 => ?_) (fun ht17 => ?_) | refine T.cond _ rfl (fun ht17 => ?_) (fun ht17 => ?_)
      · refine T.region ?_
        refine TL.move hF rfl rfl ?_
        refine TL.move hF rfl rfl ?_
        refine TL.indexAddr hF rfl rfl (hn.ad (i := k) (by omega)) (by omega) (by omega) rfl ?_
        refine TL.fieldAddr hF rfl rfl ?_
        refine TL.load hF rfl (hn.ro.at (i := k) (by omega) 1 rfl) rfl ?_
        refine TL.assign hF rfl rfl ?_
        refine TL.nil ?_
        have e : (startS l).W k = (l[k]'(by omega)).n := by show (if (nd l k).op = 0 then (nd l k).n else 0) = _; rw [nd_eq (by omega), if_pos ht17]
        exact TQ.cut () trivial ⟨rfl, rfl, rfl, rfl, congrArg (fun z => some (Value.int .i64 z)) e.symm, trivial⟩ rfl
      · refine T.skip ?_
        have e : (startS l).W k = 0 := by show (if (nd l k).op = 0 then (nd l k).n else 0) = _; rw [nd_eq (by omega), if_neg ht17]
        exact TQ.cut () trivial ⟨rfl, rfl, rfl, rfl, congrArg (fun z => some (Value.int .i64 z)) e.symm, trivial⟩ rfl
    · intro _ _
      refine T.drawH 14 mixed ?_
      refine DH.pure (i := 0) [(3, _, none)] rfl rfl rfl rfl ⟨⟨rfl, by kernel_rfl⟩, trivial⟩ (fun _ ext => TL.fieldAddr hF rfl rfl TL.fin) ?_
      refine DH.read (i := 1) [(23, _, some 0)] rfl rfl rfl rfl ⟨⟨rfl, rfl, rfl⟩, trivial⟩ (fun ext => TL.load hF rfl (by first | exact At.own' (i := 0) rfl rfl | exact At.own' (i := 1) rfl rfl | exact At.own' (i := 2) rfl rfl | exact At.own' (i := 3) rfl rfl | exact At.own' (i := 4) rfl rfl | exact At.own' (i := 5) rfl rfl | exact At.own' (i := 6) rfl rfl | exact At.own' (i := 7) rfl rfl | exact At.own' (i := 8) rfl rfl | exact At.own' (i := 9) rfl rfl | exact At.own' (i := 10) rfl rfl | exact At.own' (i := 11) rfl rfl | exact At.own' (i := 12) rfl rfl) rfl TL.fin) ?_
      refine DH.pure (i := 2) [(5, _, none)] rfl rfl rfl rfl ⟨⟨rfl, by kernel_rfl⟩, trivial⟩ (fun _ ext => TL.move hF rfl rfl TL.fin) ?_
      refine DH.pure (i := 5) [(3, _, none)] rfl rfl rfl rfl ⟨⟨rfl, by kernel_rfl⟩, trivial⟩ (fun _ ext => TL.fieldAddr hF rfl rfl TL.fin) ?_
      refine DH.read (i := 6) [(28, _, some 5)] rfl rfl rfl rfl ⟨⟨rfl, rfl, rfl⟩, trivial⟩ (fun ext => TL.load hF rfl (by first | exact At.own' (i := 0) rfl rfl | exact At.own' (i := 1) rfl rfl | exact At.own' (i := 2) rfl rfl | exact At.own' (i := 3) rfl rfl | exact At.own' (i := 4) rfl rfl | exact At.own' (i := 5) rfl rfl | exact At.own' (i := 6) rfl rfl | exact At.own' (i := 7) rfl rfl | exact At.own' (i := 8) rfl rfl | exact At.own' (i := 9) rfl rfl | exact At.own' (i := 10) rfl rfl | exact At.own' (i := 11) rfl rfl | exact At.own' (i := 12) rfl rfl) rfl TL.fin) ?_
      refine DH.pure (i := 9) [(3, _, none)] rfl rfl rfl rfl ⟨⟨rfl, by kernel_rfl⟩, trivial⟩ (fun _ ext => TL.fieldAddr hF rfl rfl TL.fin) ?_
      refine DH.read (i := 10) [(32, _, some 9)] rfl rfl rfl rfl ⟨⟨rfl, rfl, rfl⟩, trivial⟩ (fun ext => TL.load hF rfl (by first | exact At.own' (i := 0) rfl rfl | exact At.own' (i := 1) rfl rfl | exact At.own' (i := 2) rfl rfl | exact At.own' (i := 3) rfl rfl | exact At.own' (i := 4) rfl rfl | exact At.own' (i := 5) rfl rfl | exact At.own' (i := 6) rfl rfl | exact At.own' (i := 7) rfl rfl | exact At.own' (i := 8) rfl rfl | exact At.own' (i := 9) rfl rfl | exact At.own' (i := 10) rfl rfl | exact At.own' (i := 11) rfl rfl | exact At.own' (i := 12) rfl rfl) rfl TL.fin) ?_
      refine DH.k3 (by kernel_rfl) (by kernel_rfl) (by kernel_rfl) (by kernel_rfl) (HBK.mk (h := 3) [1, 6, 10] [(25, _, some 2)] rfl rfl rfl ⟨⟨rfl, rfl, rfl⟩, trivial⟩ (by kernel_rfl) (fun ext => ?_)) (HBK.mk (h := 7) [1, 6, 10] [] rfl rfl rfl trivial (by kernel_rfl) (fun ext => ?_)) (HBK.mk (h := 11) [1, 6, 10] [] rfl rfl rfl trivial (by kernel_rfl) (fun ext => ?_))
      · refine TL.buildSlice hF rfl (cs := #[.int .i64 ((startS l).W k)]) (e := 3) (fun w => by kernel_rfl) rfl (fun b26 => ?_)
        refine TL.finK ⟨⟨_, rfl, _, _, [(23, _, some 0)], rfl, rfl, ⟨⟨rfl, rfl, rfl⟩, trivial⟩, fun ext => TL.load hF rfl (by first | exact At.own' (i := 0) rfl rfl | exact At.own' (i := 1) rfl rfl | exact At.own' (i := 2) rfl rfl | exact At.own' (i := 3) rfl rfl | exact At.own' (i := 4) rfl rfl | exact At.own' (i := 5) rfl rfl | exact At.own' (i := 6) rfl rfl | exact At.own' (i := 7) rfl rfl | exact At.own' (i := 8) rfl rfl | exact At.own' (i := 9) rfl rfl | exact At.own' (i := 10) rfl rfl | exact At.own' (i := 11) rfl rfl | exact At.own' (i := 12) rfl rfl) rfl TL.fin⟩, ⟨_, rfl, _, _, [(28, _, some 5)], rfl, rfl, ⟨⟨rfl, rfl, rfl⟩, trivial⟩, fun ext => TL.load hF rfl (by first | exact At.own' (i := 0) rfl rfl | exact At.own' (i := 1) rfl rfl | exact At.own' (i := 2) rfl rfl | exact At.own' (i := 3) rfl rfl | exact At.own' (i := 4) rfl rfl | exact At.own' (i := 5) rfl rfl | exact At.own' (i := 6) rfl rfl | exact At.own' (i := 7) rfl rfl | exact At.own' (i := 8) rfl rfl | exact At.own' (i := 9) rfl rfl | exact At.own' (i := 10) rfl rfl | exact At.own' (i := 11) rfl rfl | exact At.own' (i := 12) rfl rfl) rfl TL.fin⟩, ⟨_, rfl, _, _, [(32, _, some 9)], rfl, rfl, ⟨⟨rfl, rfl, rfl⟩, trivial⟩, fun ext => TL.load hF rfl (by first | exact At.own' (i := 0) rfl rfl | exact At.own' (i := 1) rfl rfl | exact At.own' (i := 2) rfl rfl | exact At.own' (i := 3) rfl rfl | exact At.own' (i := 4) rfl rfl | exact At.own' (i := 5) rfl rfl | exact At.own' (i := 6) rfl rfl | exact At.own' (i := 7) rfl rfl | exact At.own' (i := 8) rfl rfl | exact At.own' (i := 9) rfl rfl | exact At.own' (i := 10) rfl rfl | exact At.own' (i := 11) rfl rfl | exact At.own' (i := 12) rfl rfl) rfl TL.fin⟩, trivial⟩ ?_
        refine DH.k3 (by kernel_rfl) (by kernel_rfl) (by kernel_rfl) (by kernel_rfl) (HBK.mk (h := 4) [6, 10] [(24, _, some 1), (26, _, some 3)] rfl rfl rfl ⟨⟨rfl, rfl, rfl⟩, ⟨rfl, rfl, rfl⟩, trivial⟩ (by kernel_rfl) (fun ext => ?_)) (HBK.mk (h := 7) [1, 6, 10] [] rfl rfl rfl trivial (by kernel_rfl) (fun ext => ?_)) (HBK.mk (h := 11) [1, 6, 10] [] rfl rfl rfl trivial (by kernel_rfl) (fun ext => ?_))
        · first | refine TL.append hF 2 rfl rfl rfl how (row_own (cs := [.int .i64 ((startS l).W k)]) (e := 3) List.mem_cons_self).src rfl rfl (by simp [Value.oneCell']) (by omega) (by omega) rfl (fun a1 cap1 seg1 ho1 => ?_) | refine TL.append hF 2 rfl rfl rfl how (row_own (cs := [.int .i64 ((startS l).W k)]) (e := 3) (upc _ List.mem_cons_self)).src rfl rfl (by simp [Value.oneCell']) (by omega) (by omega) rfl (fun a1 cap1 seg1 ho1 => ?_) | refine TL.append hF 2 rfl rfl rfl how (row_own (cs := [.int .i64 ((startS l).W k)]) (e := 3) (upc _ (upc _ List.mem_cons_self))).src rfl rfl (by simp [Value.oneCell']) (by omega) (by omega) rfl (fun a1 cap1 seg1 ho1 => ?_) | refine TL.append hF 3 rfl rfl rfl how (row_own (cs := [.int .i64 ((startS l).W k)]) (e := 3) List.mem_cons_self).src rfl rfl (by simp [Value.oneCell']) (by omega) (by omega) rfl (fun a1 cap1 seg1 ho1 => ?_) | refine TL.append hF 3 rfl rfl rfl how (row_own (cs := [.int .i64 ((startS l).W k)]) (e := 3) (upc _ List.mem_cons_self)).src rfl rfl (by simp [Value.oneCell']) (by omega) (by omega) rfl (fun a1 cap1 seg1 ho1 => ?_) | refine TL.append hF 3 rfl rfl rfl how (row_own (cs := [.int .i64 ((startS l).W k)]) (e := 3) (upc _ (upc _ List.mem_cons_self))).src rfl rfl (by simp [Value.oneCell']) (by omega) (by omega) rfl (fun a1 cap1 seg1 ho1 => ?_) | refine TL.append hF 4 rfl rfl rfl how (row_own (cs := [.int .i64 ((startS l).W k)]) (e := 3) List.mem_cons_self).src rfl rfl (by simp [Value.oneCell']) (by omega) (by omega) rfl (fun a1 cap1 seg1 ho1 => ?_) | refine TL.append hF 4 rfl rfl rfl how (row_own (cs := [.int .i64 ((startS l).W k)]) (e := 3) (upc _ List.mem_cons_self)).src rfl rfl (by simp [Value.oneCell']) (by omega) (by omega) rfl (fun a1 cap1 seg1 ho1 => ?_) | refine TL.append hF 4 rfl rfl rfl how (row_own (cs := [.int .i64 ((startS l).W k)]) (e := 3) (upc _ (upc _ List.mem_cons_self))).src rfl rfl (by simp [Value.oneCell']) (by omega) (by omega) rfl (fun a1 cap1 seg1 ho1 => ?_)
          refine TL.finK ⟨⟨_, rfl, _, _, [(28, _, some 5)], rfl, rfl, ⟨⟨rfl, rfl, rfl⟩, trivial⟩, fun ext => TL.load hF rfl (by first | exact At.own' (i := 0) rfl rfl | exact At.own' (i := 1) rfl rfl | exact At.own' (i := 2) rfl rfl | exact At.own' (i := 3) rfl rfl | exact At.own' (i := 4) rfl rfl | exact At.own' (i := 5) rfl rfl | exact At.own' (i := 6) rfl rfl | exact At.own' (i := 7) rfl rfl | exact At.own' (i := 8) rfl rfl | exact At.own' (i := 9) rfl rfl | exact At.own' (i := 10) rfl rfl | exact At.own' (i := 11) rfl rfl | exact At.own' (i := 12) rfl rfl) rfl TL.fin⟩, ⟨_, rfl, _, _, [(32, _, some 9)], rfl, rfl, ⟨⟨rfl, rfl, rfl⟩, trivial⟩, fun ext => TL.load hF rfl (by first | exact At.own' (i := 0) rfl rfl | exact At.own' (i := 1) rfl rfl | exact At.own' (i := 2) rfl rfl | exact At.own' (i := 3) rfl rfl | exact At.own' (i := 4) rfl rfl | exact At.own' (i := 5) rfl rfl | exact At.own' (i := 6) rfl rfl | exact At.own' (i := 7) rfl rfl | exact At.own' (i := 8) rfl rfl | exact At.own' (i := 9) rfl rfl | exact At.own' (i := 10) rfl rfl | exact At.own' (i := 11) rfl rfl | exact At.own' (i := 12) rfl rfl) rfl TL.fin⟩, trivial⟩ ?_
          refine DH.pure (i := 13) [(3, _, none)] rfl rfl rfl rfl ⟨⟨rfl, by kernel_rfl⟩, trivial⟩ (fun _ ext => TL.fieldAddr hF rfl rfl TL.fin) ?_
          refine DH.k2 (by kernel_rfl) (by kernel_rfl) (by kernel_rfl) (by kernel_rfl) (HBK.mk (h := 7) [6, 10] [] rfl rfl rfl trivial (by kernel_rfl) (fun ext => ?_)) (HBK.mk (h := 11) [6, 10] [] rfl rfl rfl trivial (by kernel_rfl) (fun ext => ?_))
          · refine TL.buildSlice hF rfl (cs := #[.int .i64 (-1)]) (e := 3) (fun w => by kernel_rfl) rfl (fun b30 => ?_)
            refine TL.finK ⟨⟨_, rfl, _, _, [(28, _, some 5)], rfl, rfl, ⟨⟨rfl, rfl, rfl⟩, trivial⟩, fun ext => TL.load hF rfl (by first | exact At.own' (i := 0) rfl rfl | exact At.own' (i := 1) rfl rfl | exact At.own' (i := 2) rfl rfl | exact At.own' (i := 3) rfl rfl | exact At.own' (i := 4) rfl rfl | exact At.own' (i := 5) rfl rfl | exact At.own' (i := 6) rfl rfl | exact At.own' (i := 7) rfl rfl | exact At.own' (i := 8) rfl rfl | exact At.own' (i := 9) rfl rfl | exact At.own' (i := 10) rfl rfl | exact At.own' (i := 11) rfl rfl | exact At.own' (i := 12) rfl rfl) rfl TL.fin⟩, ⟨_, rfl, _, _, [(32, _, some 9)], rfl, rfl, ⟨⟨rfl, rfl, rfl⟩, trivial⟩, fun ext => TL.load hF rfl (by first | exact At.own' (i := 0) rfl rfl | exact At.own' (i := 1) rfl rfl | exact At.own' (i := 2) rfl rfl | exact At.own' (i := 3) rfl rfl | exact At.own' (i := 4) rfl rfl | exact At.own' (i := 5) rfl rfl | exact At.own' (i := 6) rfl rfl | exact At.own' (i := 7) rfl rfl | exact At.own' (i := 8) rfl rfl | exact At.own' (i := 9) rfl rfl | exact At.own' (i := 10) rfl rfl | exact At.own' (i := 11) rfl rfl | exact At.own' (i := 12) rfl rfl) rfl TL.fin⟩, trivial⟩ ?_
            refine DH.k2 (by kernel_rfl) (by kernel_rfl) (by kernel_rfl) (by kernel_rfl) (HBK.mk (h := 8) [10] [(29, _, some 6), (30, _, some 7)] rfl rfl rfl ⟨⟨rfl, rfl, rfl⟩, ⟨rfl, rfl, rfl⟩, trivial⟩ (by kernel_rfl) (fun ext => ?_)) (HBK.mk (h := 11) [6, 10] [] rfl rfl rfl trivial (by kernel_rfl) (fun ext => ?_))
            · first | refine TL.append hF 4 rfl rfl rfl hoo (row_own (cs := [.int .i64 (-1)]) (e := 3) List.mem_cons_self).src rfl rfl (by simp [Value.oneCell']) (by omega) (by omega) rfl (fun a2 cap2 seg2 ho2 => ?_) | refine TL.append hF 4 rfl rfl rfl hoo (row_own (cs := [.int .i64 (-1)]) (e := 3) (upc _ List.mem_cons_self)).src rfl rfl (by simp [Value.oneCell']) (by omega) (by omega) rfl (fun a2 cap2 seg2 ho2 => ?_) | refine TL.append hF 4 rfl rfl rfl hoo (row_own (cs := [.int .i64 (-1)]) (e := 3) (upc _ (upc _ List.mem_cons_self))).src rfl rfl (by simp [Value.oneCell']) (by omega) (by omega) rfl (fun a2 cap2 seg2 ho2 => ?_) | refine TL.append hF 5 rfl rfl rfl hoo (row_own (cs := [.int .i64 (-1)]) (e := 3) List.mem_cons_self).src rfl rfl (by simp [Value.oneCell']) (by omega) (by omega) rfl (fun a2 cap2 seg2 ho2 => ?_) | refine TL.append hF 5 rfl rfl rfl hoo (row_own (cs := [.int .i64 (-1)]) (e := 3) (upc _ List.mem_cons_self)).src rfl rfl (by simp [Value.oneCell']) (by omega) (by omega) rfl (fun a2 cap2 seg2 ho2 => ?_) | refine TL.append hF 5 rfl rfl rfl hoo (row_own (cs := [.int .i64 (-1)]) (e := 3) (upc _ (upc _ List.mem_cons_self))).src rfl rfl (by simp [Value.oneCell']) (by omega) (by omega) rfl (fun a2 cap2 seg2 ho2 => ?_)
              refine TL.finK ⟨⟨_, rfl, _, _, [(32, _, some 9)], rfl, rfl, ⟨⟨rfl, rfl, rfl⟩, trivial⟩, fun ext => TL.load hF rfl (by first | exact At.own' (i := 0) rfl rfl | exact At.own' (i := 1) rfl rfl | exact At.own' (i := 2) rfl rfl | exact At.own' (i := 3) rfl rfl | exact At.own' (i := 4) rfl rfl | exact At.own' (i := 5) rfl rfl | exact At.own' (i := 6) rfl rfl | exact At.own' (i := 7) rfl rfl | exact At.own' (i := 8) rfl rfl | exact At.own' (i := 9) rfl rfl | exact At.own' (i := 10) rfl rfl | exact At.own' (i := 11) rfl rfl | exact At.own' (i := 12) rfl rfl) rfl TL.fin⟩, trivial⟩ ?_
              refine DH.k1 (by kernel_rfl) (by kernel_rfl) (by kernel_rfl) (by kernel_rfl) (HBK.mk (h := 11) [10] [] rfl rfl rfl trivial (by kernel_rfl) (fun ext => ?_))
              refine TL.buildSlice hF rfl (cs := #[.int .i64 (-1)]) (e := 3) (fun w => by kernel_rfl) rfl (fun b34 => ?_)
              refine TL.finK ⟨⟨_, rfl, _, _, [(32, _, some 9)], rfl, rfl, ⟨⟨rfl, rfl, rfl⟩, trivial⟩, fun ext => TL.load hF rfl (by first | exact At.own' (i := 0) rfl rfl | exact At.own' (i := 1) rfl rfl | exact At.own' (i := 2) rfl rfl | exact At.own' (i := 3) rfl rfl | exact At.own' (i := 4) rfl rfl | exact At.own' (i := 5) rfl rfl | exact At.own' (i := 6) rfl rfl | exact At.own' (i := 7) rfl rfl | exact At.own' (i := 8) rfl rfl | exact At.own' (i := 9) rfl rfl | exact At.own' (i := 10) rfl rfl | exact At.own' (i := 11) rfl rfl | exact At.own' (i := 12) rfl rfl) rfl TL.fin⟩, trivial⟩ ?_
              refine DH.heavy 12 [(33, _, some 10), (34, _, some 11)] (by kernel_rfl) (by kernel_rfl) (by kernel_rfl) (by kernel_rfl) rfl rfl rfl rfl ⟨⟨rfl, rfl, rfl⟩, ⟨rfl, rfl, rfl⟩, trivial⟩ (by kernel_rfl) (fun ext => ?_)
              first | refine TL.append hF 6 rfl rfl rfl hol (row_own (cs := [.int .i64 (-1)]) (e := 3) List.mem_cons_self).src rfl rfl (by simp [Value.oneCell']) (by omega) (by omega) rfl (fun a3 cap3 seg3 ho3 => ?_) | refine TL.append hF 6 rfl rfl rfl hol (row_own (cs := [.int .i64 (-1)]) (e := 3) (upc _ List.mem_cons_self)).src rfl rfl (by simp [Value.oneCell']) (by omega) (by omega) rfl (fun a3 cap3 seg3 ho3 => ?_) | refine TL.append hF 6 rfl rfl rfl hol (row_own (cs := [.int .i64 (-1)]) (e := 3) (upc _ (upc _ List.mem_cons_self))).src rfl rfl (by simp [Value.oneCell']) (by omega) (by omega) rfl (fun a3 cap3 seg3 ho3 => ?_)
              refine TL.finD ?_
              refine DH.done [(35, _), (34, _), (31, _), (30, _), (36, _), (27, _), (26, _), (33, _), (32, _), (29, _), (28, _), (25, _), (24, _), (23, _)] [_, _, _, _, _] (by kernel_rfl) (by kernel_rfl) (by kernel_rfl) (by kernel_rfl) rfl rfl ?_
              refine TL.storeI hF 3 rfl rfl rfl rfl (by simp) ?_
              refine TL.fieldAddr hF rfl rfl ?_
              refine TL.storeI hF 3 rfl rfl rfl rfl (by simp) ?_
              refine TL.fieldAddr hF rfl rfl ?_
              refine TL.storeI hF 3 rfl rfl rfl rfl (by simp) ?_
              refine TL.nil ?_
              refine TQ.block_n ?_
              refine TQ.then_n ?_
              refine T.region ?_
              refine TL.move hF rfl rfl ?_
              refine TL.add hF rfl rfl (by omega) (by omega) rfl ?_
              refine TL.assign hF rfl rfl ?_
              refine TL.nil ?_
              refine TQ.pop (TQ.pop (TQ.pop ?_))
              rw [intC_snoc] at ho1
              rw [intC_snoc (f := fun _ => -1)] at ho2 ho3
              exact TQ.round (k + 1, a1, cap1, seg1, a2, cap2, seg2, a3, cap3, seg3) ⟨by simp only; omega, ho1, ho2, ho3⟩ (by simp only; omega) ⟨rfl, rfl, rfl, rfl, trivial⟩ rfl
            · refine TL.buildSlice hF rfl (cs := #[.int .i64 (-1)]) (e := 3) (fun w => by kernel_rfl) rfl (fun b34 => ?_)
              refine TL.finK ⟨⟨_, rfl, _, _, [(28, _, some 5)], rfl, rfl, ⟨⟨rfl, rfl, rfl⟩, trivial⟩, fun ext => TL.load hF rfl (by first | exact At.own' (i := 0) rfl rfl | exact At.own' (i := 1) rfl rfl | exact At.own' (i := 2) rfl rfl | exact At.own' (i := 3) rfl rfl | exact At.own' (i := 4) rfl rfl | exact At.own' (i := 5) rfl rfl | exact At.own' (i := 6) rfl rfl | exact At.own' (i := 7) rfl rfl | exact At.own' (i := 8) rfl rfl | exact At.own' (i := 9) rfl rfl | exact At.own' (i := 10) rfl rfl | exact At.own' (i := 11) rfl rfl | exact At.own' (i := 12) rfl rfl) rfl TL.fin⟩, ⟨_, rfl, _, _, [(32, _, some 9)], rfl, rfl, ⟨⟨rfl, rfl, rfl⟩, trivial⟩, fun ext => TL.load hF rfl (by first | exact At.own' (i := 0) rfl rfl | exact At.own' (i := 1) rfl rfl | exact At.own' (i := 2) rfl rfl | exact At.own' (i := 3) rfl rfl | exact At.own' (i := 4) rfl rfl | exact At.own' (i := 5) rfl rfl | exact At.own' (i := 6) rfl rfl | exact At.own' (i := 7) rfl rfl | exact At.own' (i := 8) rfl rfl | exact At.own' (i := 9) rfl rfl | exact At.own' (i := 10) rfl rfl | exact At.own' (i := 11) rfl rfl | exact At.own' (i := 12) rfl rfl) rfl TL.fin⟩, trivial⟩ ?_
              refine DH.k1 (by kernel_rfl) (by kernel_rfl) (by kernel_rfl) (by kernel_rfl) (HBK.mk (h := 8) [10] [(29, _, some 6), (30, _, some 7)] rfl rfl rfl ⟨⟨rfl, rfl, rfl⟩, ⟨rfl, rfl, rfl⟩, trivial⟩ (by kernel_rfl) (fun ext => ?_))
              first | refine TL.append hF 4 rfl rfl rfl hoo (row_own (cs := [.int .i64 (-1)]) (e := 3) List.mem_cons_self).src rfl rfl (by simp [Value.oneCell']) (by omega) (by omega) rfl (fun a2 cap2 seg2 ho2 => ?_) | refine TL.append hF 4 rfl rfl rfl hoo (row_own (cs := [.int .i64 (-1)]) (e := 3) (upc _ List.mem_cons_self)).src rfl rfl (by simp [Value.oneCell']) (by omega) (by omega) rfl (fun a2 cap2 seg2 ho2 => ?_) | refine TL.append hF 4 rfl rfl rfl hoo (row_own (cs := [.int .i64 (-1)]) (e := 3) (upc _ (upc _ List.mem_cons_self))).src rfl rfl (by simp [Value.oneCell']) (by omega) (by omega) rfl (fun a2 cap2 seg2 ho2 => ?_) | refine TL.append hF 5 rfl rfl rfl hoo (row_own (cs := [.int .i64 (-1)]) (e := 3) List.mem_cons_self).src rfl rfl (by simp [Value.oneCell']) (by omega) (by omega) rfl (fun a2 cap2 seg2 ho2 => ?_) | refine TL.append hF 5 rfl rfl rfl hoo (row_own (cs := [.int .i64 (-1)]) (e := 3) (upc _ List.mem_cons_self)).src rfl rfl (by simp [Value.oneCell']) (by omega) (by omega) rfl (fun a2 cap2 seg2 ho2 => ?_) | refine TL.append hF 5 rfl rfl rfl hoo (row_own (cs := [.int .i64 (-1)]) (e := 3) (upc _ (upc _ List.mem_cons_self))).src rfl rfl (by simp [Value.oneCell']) (by omega) (by omega) rfl (fun a2 cap2 seg2 ho2 => ?_)
              refine TL.finK ⟨⟨_, rfl, _, _, [(32, _, some 9)], rfl, rfl, ⟨⟨rfl, rfl, rfl⟩, trivial⟩, fun ext => TL.load hF rfl (by first | exact At.own' (i := 0) rfl rfl | exact At.own' (i := 1) rfl rfl | exact At.own' (i := 2) rfl rfl | exact At.own' (i := 3) rfl rfl | exact At.own' (i := 4) rfl rfl | exact At.own' (i := 5) rfl rfl | exact At.own' (i := 6) rfl rfl | exact At.own' (i := 7) rfl rfl | exact At.own' (i := 8) rfl rfl | exact At.own' (i := 9) rfl rfl | exact At.own' (i := 10) rfl rfl | exact At.own' (i := 11) rfl rfl | exact At.own' (i := 12) rfl rfl) rfl TL.fin⟩, trivial⟩ ?_
              refine DH.heavy 12 [(33, _, some 10), (34, _, some 11)] (by kernel_rfl) (by kernel_rfl) (by kernel_rfl) (by kernel_rfl) rfl rfl rfl rfl ⟨⟨rfl, rfl, rfl⟩, ⟨rfl, rfl, rfl⟩, trivial⟩ (by kernel_rfl) (fun ext => ?_)
              first | refine TL.append hF 6 rfl rfl rfl hol (row_own (cs := [.int .i64 (-1)]) (e := 3) List.mem_cons_self).src rfl rfl (by simp [Value.oneCell']) (by omega) (by omega) rfl (fun a3 cap3 seg3 ho3 => ?_) | refine TL.append hF 6 rfl rfl rfl hol (row_own (cs := [.int .i64 (-1)]) (e := 3) (upc _ List.mem_cons_self)).src rfl rfl (by simp [Value.oneCell']) (by omega) (by omega) rfl (fun a3 cap3 seg3 ho3 => ?_) | refine TL.append hF 6 rfl rfl rfl hol (row_own (cs := [.int .i64 (-1)]) (e := 3) (upc _ (upc _ List.mem_cons_self))).src rfl rfl (by simp [Value.oneCell']) (by omega) (by omega) rfl (fun a3 cap3 seg3 ho3 => ?_)
              refine TL.finD ?_
              refine DH.done [(35, _), (31, _), (34, _), (30, _), (36, _), (27, _), (26, _), (33, _), (32, _), (29, _), (28, _), (25, _), (24, _), (23, _)] [_, _, _, _, _] (by kernel_rfl) (by kernel_rfl) (by kernel_rfl) (by kernel_rfl) rfl rfl ?_
              refine TL.storeI hF 3 rfl rfl rfl rfl (by simp) ?_
              refine TL.fieldAddr hF rfl rfl ?_
              refine TL.storeI hF 3 rfl rfl rfl rfl (by simp) ?_
              refine TL.fieldAddr hF rfl rfl ?_
              refine TL.storeI hF 3 rfl rfl rfl rfl (by simp) ?_
              refine TL.nil ?_
              refine TQ.block_n ?_
              refine TQ.then_n ?_
              refine T.region ?_
              refine TL.move hF rfl rfl ?_
              refine TL.add hF rfl rfl (by omega) (by omega) rfl ?_
              refine TL.assign hF rfl rfl ?_
              refine TL.nil ?_
              refine TQ.pop (TQ.pop (TQ.pop ?_))
              rw [intC_snoc] at ho1
              rw [intC_snoc (f := fun _ => -1)] at ho2 ho3
              exact TQ.round (k + 1, a1, cap1, seg1, a2, cap2, seg2, a3, cap3, seg3) ⟨by simp only; omega, ho1, ho2, ho3⟩ (by simp only; omega) ⟨rfl, rfl, rfl, rfl, trivial⟩ rfl
          · refine TL.buildSlice hF rfl (cs := #[.int .i64 (-1)]) (e := 3) (fun w => by kernel_rfl) rfl (fun b34 => ?_)
            refine TL.finK ⟨⟨_, rfl, _, _, [(28, _, some 5)], rfl, rfl, ⟨⟨rfl, rfl, rfl⟩, trivial⟩, fun ext => TL.load hF rfl (by first | exact At.own' (i := 0) rfl rfl | exact At.own' (i := 1) rfl rfl | exact At.own' (i := 2) rfl rfl | exact At.own' (i := 3) rfl rfl | exact At.own' (i := 4) rfl rfl | exact At.own' (i := 5) rfl rfl | exact At.own' (i := 6) rfl rfl | exact At.own' (i := 7) rfl rfl | exact At.own' (i := 8) rfl rfl | exact At.own' (i := 9) rfl rfl | exact At.own' (i := 10) rfl rfl | exact At.own' (i := 11) rfl rfl | exact At.own' (i := 12) rfl rfl) rfl TL.fin⟩, ⟨_, rfl, _, _, [(32, _, some 9)], rfl, rfl, ⟨⟨rfl, rfl, rfl⟩, trivial⟩, fun ext => TL.load hF rfl (by first | exact At.own' (i := 0) rfl rfl | exact At.own' (i := 1) rfl rfl | exact At.own' (i := 2) rfl rfl | exact At.own' (i := 3) rfl rfl | exact At.own' (i := 4) rfl rfl | exact At.own' (i := 5) rfl rfl | exact At.own' (i := 6) rfl rfl | exact At.own' (i := 7) rfl rfl | exact At.own' (i := 8) rfl rfl | exact At.own' (i := 9) rfl rfl | exact At.own' (i := 10) rfl rfl | exact At.own' (i := 11) rfl rfl | exact At.own' (i := 12) rfl rfl) rfl TL.fin⟩, trivial⟩ ?_
            refine DH.k1 (by kernel_rfl) (by kernel_rfl) (by kernel_rfl) (by kernel_rfl) (HBK.mk (h := 7) [6, 10] [] rfl rfl rfl trivial (by kernel_rfl) (fun ext => ?_))
            refine TL.buildSlice hF rfl (cs := #[.int .i64 (-1)]) (e := 3) (fun w => by kernel_rfl) rfl (fun b30 => ?_)
            refine TL.finK ⟨⟨_, rfl, _, _, [(28, _, some 5)], rfl, rfl, ⟨⟨rfl, rfl, rfl⟩, trivial⟩, fun ext => TL.load hF rfl (by first | exact At.own' (i := 0) rfl rfl | exact At.own' (i := 1) rfl rfl | exact At.own' (i := 2) rfl rfl | exact At.own' (i := 3) rfl rfl | exact At.own' (i := 4) rfl rfl | exact At.own' (i := 5) rfl rfl | exact At.own' (i := 6) rfl rfl | exact At.own' (i := 7) rfl rfl | exact At.own' (i := 8) rfl rfl | exact At.own' (i := 9) rfl rfl | exact At.own' (i := 10) rfl rfl | exact At.own' (i := 11) rfl rfl | exact At.own' (i := 12) rfl rfl) rfl TL.fin⟩, ⟨_, rfl, _, _, [(32, _, some 9)], rfl, rfl, ⟨⟨rfl, rfl, rfl⟩, trivial⟩, fun ext => TL.load hF rfl (by first | exact At.own' (i := 0) rfl rfl | exact At.own' (i := 1) rfl rfl | exact At.own' (i := 2) rfl rfl | exact At.own' (i := 3) rfl rfl | exact At.own' (i := 4) rfl rfl | exact At.own' (i := 5) rfl rfl | exact At.own' (i := 6) rfl rfl | exact At.own' (i := 7) rfl rfl | exact At.own' (i := 8) rfl rfl | exact At.own' (i := 9) rfl rfl | exact At.own' (i := 10) rfl rfl | exact At.own' (i := 11) rfl rfl | exact At.own' (i := 12) rfl rfl) rfl TL.fin⟩, trivial⟩ ?_
            refine DH.k1 (by kernel_rfl) (by kernel_rfl) (by kernel_rfl) (by kernel_rfl) (HBK.mk (h := 8) [10] [(29, _, some 6), (30, _, some 7)] rfl rfl rfl ⟨⟨rfl, rfl, rfl⟩, ⟨rfl, rfl, rfl⟩, trivial⟩ (by kernel_rfl) (fun ext => ?_))
            first | refine TL.append hF 4 rfl rfl rfl hoo (row_own (cs := [.int .i64 (-1)]) (e := 3) List.mem_cons_self).src rfl rfl (by simp [Value.oneCell']) (by omega) (by omega) rfl (fun a2 cap2 seg2 ho2 => ?_) | refine TL.append hF 4 rfl rfl rfl hoo (row_own (cs := [.int .i64 (-1)]) (e := 3) (upc _ List.mem_cons_self)).src rfl rfl (by simp [Value.oneCell']) (by omega) (by omega) rfl (fun a2 cap2 seg2 ho2 => ?_) | refine TL.append hF 4 rfl rfl rfl hoo (row_own (cs := [.int .i64 (-1)]) (e := 3) (upc _ (upc _ List.mem_cons_self))).src rfl rfl (by simp [Value.oneCell']) (by omega) (by omega) rfl (fun a2 cap2 seg2 ho2 => ?_) | refine TL.append hF 5 rfl rfl rfl hoo (row_own (cs := [.int .i64 (-1)]) (e := 3) List.mem_cons_self).src rfl rfl (by simp [Value.oneCell']) (by omega) (by omega) rfl (fun a2 cap2 seg2 ho2 => ?_) | refine TL.append hF 5 rfl rfl rfl hoo (row_own (cs := [.int .i64 (-1)]) (e := 3) (upc _ List.mem_cons_self)).src rfl rfl (by simp [Value.oneCell']) (by omega) (by omega) rfl (fun a2 cap2 seg2 ho2 => ?_) | refine TL.append hF 5 rfl rfl rfl hoo (row_own (cs := [.int .i64 (-1)]) (e := 3) (upc _ (upc _ List.mem_cons_self))).src rfl rfl (by simp [Value.oneCell']) (by omega) (by omega) rfl (fun a2 cap2 seg2 ho2 => ?_)
            refine TL.finK ⟨⟨_, rfl, _, _, [(32, _, some 9)], rfl, rfl, ⟨⟨rfl, rfl, rfl⟩, trivial⟩, fun ext => TL.load hF rfl (by first | exact At.own' (i := 0) rfl rfl | exact At.own' (i := 1) rfl rfl | exact At.own' (i := 2) rfl rfl | exact At.own' (i := 3) rfl rfl | exact At.own' (i := 4) rfl rfl | exact At.own' (i := 5) rfl rfl | exact At.own' (i := 6) rfl rfl | exact At.own' (i := 7) rfl rfl | exact At.own' (i := 8) rfl rfl | exact At.own' (i := 9) rfl rfl | exact At.own' (i := 10) rfl rfl | exact At.own' (i := 11) rfl rfl | exact At.own' (i := 12) rfl rfl) rfl TL.fin⟩, trivial⟩ ?_
            refine DH.heavy 12 [(33, _, some 10), (34, _, some 11)] (by kernel_rfl) (by kernel_rfl) (by kernel_rfl) (by kernel_rfl) rfl rfl rfl rfl ⟨⟨rfl, rfl, rfl⟩, ⟨rfl, rfl, rfl⟩, trivial⟩ (by kernel_rfl) (fun ext => ?_)
            first | refine TL.append hF 6 rfl rfl rfl hol (row_own (cs := [.int .i64 (-1)]) (e := 3) List.mem_cons_self).src rfl rfl (by simp [Value.oneCell']) (by omega) (by omega) rfl (fun a3 cap3 seg3 ho3 => ?_) | refine TL.append hF 6 rfl rfl rfl hol (row_own (cs := [.int .i64 (-1)]) (e := 3) (upc _ List.mem_cons_self)).src rfl rfl (by simp [Value.oneCell']) (by omega) (by omega) rfl (fun a3 cap3 seg3 ho3 => ?_) | refine TL.append hF 6 rfl rfl rfl hol (row_own (cs := [.int .i64 (-1)]) (e := 3) (upc _ (upc _ List.mem_cons_self))).src rfl rfl (by simp [Value.oneCell']) (by omega) (by omega) rfl (fun a3 cap3 seg3 ho3 => ?_)
            refine TL.finD ?_
            refine DH.done [(35, _), (31, _), (30, _), (34, _), (36, _), (27, _), (26, _), (33, _), (32, _), (29, _), (28, _), (25, _), (24, _), (23, _)] [_, _, _, _, _] (by kernel_rfl) (by kernel_rfl) (by kernel_rfl) (by kernel_rfl) rfl rfl ?_
            refine TL.storeI hF 3 rfl rfl rfl rfl (by simp) ?_
            refine TL.fieldAddr hF rfl rfl ?_
            refine TL.storeI hF 3 rfl rfl rfl rfl (by simp) ?_
            refine TL.fieldAddr hF rfl rfl ?_
            refine TL.storeI hF 3 rfl rfl rfl rfl (by simp) ?_
            refine TL.nil ?_
            refine TQ.block_n ?_
            refine TQ.then_n ?_
            refine T.region ?_
            refine TL.move hF rfl rfl ?_
            refine TL.add hF rfl rfl (by omega) (by omega) rfl ?_
            refine TL.assign hF rfl rfl ?_
            refine TL.nil ?_
            refine TQ.pop (TQ.pop (TQ.pop ?_))
            rw [intC_snoc] at ho1
            rw [intC_snoc (f := fun _ => -1)] at ho2 ho3
            exact TQ.round (k + 1, a1, cap1, seg1, a2, cap2, seg2, a3, cap3, seg3) ⟨by simp only; omega, ho1, ho2, ho3⟩ (by simp only; omega) ⟨rfl, rfl, rfl, rfl, trivial⟩ rfl
        · refine TL.buildSlice hF rfl (cs := #[.int .i64 (-1)]) (e := 3) (fun w => by kernel_rfl) rfl (fun b30 => ?_)
          refine TL.finK ⟨⟨_, rfl, _, _, [(23, _, some 0)], rfl, rfl, ⟨⟨rfl, rfl, rfl⟩, trivial⟩, fun ext => TL.load hF rfl (by first | exact At.own' (i := 0) rfl rfl | exact At.own' (i := 1) rfl rfl | exact At.own' (i := 2) rfl rfl | exact At.own' (i := 3) rfl rfl | exact At.own' (i := 4) rfl rfl | exact At.own' (i := 5) rfl rfl | exact At.own' (i := 6) rfl rfl | exact At.own' (i := 7) rfl rfl | exact At.own' (i := 8) rfl rfl | exact At.own' (i := 9) rfl rfl | exact At.own' (i := 10) rfl rfl | exact At.own' (i := 11) rfl rfl | exact At.own' (i := 12) rfl rfl) rfl TL.fin⟩, ⟨_, rfl, _, _, [(28, _, some 5)], rfl, rfl, ⟨⟨rfl, rfl, rfl⟩, trivial⟩, fun ext => TL.load hF rfl (by first | exact At.own' (i := 0) rfl rfl | exact At.own' (i := 1) rfl rfl | exact At.own' (i := 2) rfl rfl | exact At.own' (i := 3) rfl rfl | exact At.own' (i := 4) rfl rfl | exact At.own' (i := 5) rfl rfl | exact At.own' (i := 6) rfl rfl | exact At.own' (i := 7) rfl rfl | exact At.own' (i := 8) rfl rfl | exact At.own' (i := 9) rfl rfl | exact At.own' (i := 10) rfl rfl | exact At.own' (i := 11) rfl rfl | exact At.own' (i := 12) rfl rfl) rfl TL.fin⟩, ⟨_, rfl, _, _, [(32, _, some 9)], rfl, rfl, ⟨⟨rfl, rfl, rfl⟩, trivial⟩, fun ext => TL.load hF rfl (by first | exact At.own' (i := 0) rfl rfl | exact At.own' (i := 1) rfl rfl | exact At.own' (i := 2) rfl rfl | exact At.own' (i := 3) rfl rfl | exact At.own' (i := 4) rfl rfl | exact At.own' (i := 5) rfl rfl | exact At.own' (i := 6) rfl rfl | exact At.own' (i := 7) rfl rfl | exact At.own' (i := 8) rfl rfl | exact At.own' (i := 9) rfl rfl | exact At.own' (i := 10) rfl rfl | exact At.own' (i := 11) rfl rfl | exact At.own' (i := 12) rfl rfl) rfl TL.fin⟩, trivial⟩ ?_
          refine DH.k2 (by kernel_rfl) (by kernel_rfl) (by kernel_rfl) (by kernel_rfl) (HBK.mk (h := 4) [6, 10] [(24, _, some 1), (26, _, some 3)] rfl rfl rfl ⟨⟨rfl, rfl, rfl⟩, ⟨rfl, rfl, rfl⟩, trivial⟩ (by kernel_rfl) (fun ext => ?_)) (HBK.mk (h := 11) [1, 6, 10] [] rfl rfl rfl trivial (by kernel_rfl) (fun ext => ?_))
          · first | refine TL.append hF 2 rfl rfl rfl how (row_own (cs := [.int .i64 ((startS l).W k)]) (e := 3) List.mem_cons_self).src rfl rfl (by simp [Value.oneCell']) (by omega) (by omega) rfl (fun a1 cap1 seg1 ho1 => ?_) | refine TL.append hF 2 rfl rfl rfl how (row_own (cs := [.int .i64 ((startS l).W k)]) (e := 3) (upc _ List.mem_cons_self)).src rfl rfl (by simp [Value.oneCell']) (by omega) (by omega) rfl (fun a1 cap1 seg1 ho1 => ?_) | refine TL.append hF 2 rfl rfl rfl how (row_own (cs := [.int .i64 ((startS l).W k)]) (e := 3) (upc _ (upc _ List.mem_cons_self))).src rfl rfl (by simp [Value.oneCell']) (by omega) (by omega) rfl (fun a1 cap1 seg1 ho1 => ?_) | refine TL.append hF 3 rfl rfl rfl how (row_own (cs := [.int .i64 ((startS l).W k)]) (e := 3) List.mem_cons_self).src rfl rfl (by simp [Value.oneCell']) (by omega) (by omega) rfl (fun a1 cap1 seg1 ho1 => ?_) | refine TL.append hF 3 rfl rfl rfl how (row_own (cs := [.int .i64 ((startS l).W k)]) (e := 3) (upc _ List.mem_cons_self)).src rfl rfl (by simp [Value.oneCell']) (by omega) (by omega) rfl (fun a1 cap1 seg1 ho1 => ?_) | refine TL.append hF 3 rfl rfl rfl how (row_own (cs := [.int .i64 ((startS l).W k)]) (e := 3) (upc _ (upc _ List.mem_cons_self))).src rfl rfl (by simp [Value.oneCell']) (by omega) (by omega) rfl (fun a1 cap1 seg1 ho1 => ?_) | refine TL.append hF 4 rfl rfl rfl how (row_own (cs := [.int .i64 ((startS l).W k)]) (e := 3) List.mem_cons_self).src rfl rfl (by simp [Value.oneCell']) (by omega) (by omega) rfl (fun a1 cap1 seg1 ho1 => ?_) | refine TL.append hF 4 rfl rfl rfl how (row_own (cs := [.int .i64 ((startS l).W k)]) (e := 3) (upc _ List.mem_cons_self)).src rfl rfl (by simp [Value.oneCell']) (by omega) (by omega) rfl (fun a1 cap1 seg1 ho1 => ?_) | refine TL.append hF 4 rfl rfl rfl how (row_own (cs := [.int .i64 ((startS l).W k)]) (e := 3) (upc _ (upc _ List.mem_cons_self))).src rfl rfl (by simp [Value.oneCell']) (by omega) (by omega) rfl (fun a1 cap1 seg1 ho1 => ?_)
            refine TL.finK ⟨⟨_, rfl, _, _, [(28, _, some 5)], rfl, rfl, ⟨⟨rfl, rfl, rfl⟩, trivial⟩, fun ext => TL.load hF rfl (by first | exact At.own' (i := 0) rfl rfl | exact At.own' (i := 1) rfl rfl | exact At.own' (i := 2) rfl rfl | exact At.own' (i := 3) rfl rfl | exact At.own' (i := 4) rfl rfl | exact At.own' (i := 5) rfl rfl | exact At.own' (i := 6) rfl rfl | exact At.own' (i := 7) rfl rfl | exact At.own' (i := 8) rfl rfl | exact At.own' (i := 9) rfl rfl | exact At.own' (i := 10) rfl rfl | exact At.own' (i := 11) rfl rfl | exact At.own' (i := 12) rfl rfl) rfl TL.fin⟩, ⟨_, rfl, _, _, [(32, _, some 9)], rfl, rfl, ⟨⟨rfl, rfl, rfl⟩, trivial⟩, fun ext => TL.load hF rfl (by first | exact At.own' (i := 0) rfl rfl | exact At.own' (i := 1) rfl rfl | exact At.own' (i := 2) rfl rfl | exact At.own' (i := 3) rfl rfl | exact At.own' (i := 4) rfl rfl | exact At.own' (i := 5) rfl rfl | exact At.own' (i := 6) rfl rfl | exact At.own' (i := 7) rfl rfl | exact At.own' (i := 8) rfl rfl | exact At.own' (i := 9) rfl rfl | exact At.own' (i := 10) rfl rfl | exact At.own' (i := 11) rfl rfl | exact At.own' (i := 12) rfl rfl) rfl TL.fin⟩, trivial⟩ ?_
            refine DH.pure (i := 13) [(3, _, none)] rfl rfl rfl rfl ⟨⟨rfl, by kernel_rfl⟩, trivial⟩ (fun _ ext => TL.fieldAddr hF rfl rfl TL.fin) ?_
            refine DH.k2 (by kernel_rfl) (by kernel_rfl) (by kernel_rfl) (by kernel_rfl) (HBK.mk (h := 8) [10] [(29, _, some 6), (30, _, some 7)] rfl rfl rfl ⟨⟨rfl, rfl, rfl⟩, ⟨rfl, rfl, rfl⟩, trivial⟩ (by kernel_rfl) (fun ext => ?_)) (HBK.mk (h := 11) [6, 10] [] rfl rfl rfl trivial (by kernel_rfl) (fun ext => ?_))
            · first | refine TL.append hF 4 rfl rfl rfl hoo (row_own (cs := [.int .i64 (-1)]) (e := 3) List.mem_cons_self).src rfl rfl (by simp [Value.oneCell']) (by omega) (by omega) rfl (fun a2 cap2 seg2 ho2 => ?_) | refine TL.append hF 4 rfl rfl rfl hoo (row_own (cs := [.int .i64 (-1)]) (e := 3) (upc _ List.mem_cons_self)).src rfl rfl (by simp [Value.oneCell']) (by omega) (by omega) rfl (fun a2 cap2 seg2 ho2 => ?_) | refine TL.append hF 4 rfl rfl rfl hoo (row_own (cs := [.int .i64 (-1)]) (e := 3) (upc _ (upc _ List.mem_cons_self))).src rfl rfl (by simp [Value.oneCell']) (by omega) (by omega) rfl (fun a2 cap2 seg2 ho2 => ?_) | refine TL.append hF 5 rfl rfl rfl hoo (row_own (cs := [.int .i64 (-1)]) (e := 3) List.mem_cons_self).src rfl rfl (by simp [Value.oneCell']) (by omega) (by omega) rfl (fun a2 cap2 seg2 ho2 => ?_) | refine TL.append hF 5 rfl rfl rfl hoo (row_own (cs := [.int .i64 (-1)]) (e := 3) (upc _ List.mem_cons_self)).src rfl rfl (by simp [Value.oneCell']) (by omega) (by omega) rfl (fun a2 cap2 seg2 ho2 => ?_) | refine TL.append hF 5 rfl rfl rfl hoo (row_own (cs := [.int .i64 (-1)]) (e := 3) (upc _ (upc _ List.mem_cons_self))).src rfl rfl (by simp [Value.oneCell']) (by omega) (by omega) rfl (fun a2 cap2 seg2 ho2 => ?_)
              refine TL.finK ⟨⟨_, rfl, _, _, [(32, _, some 9)], rfl, rfl, ⟨⟨rfl, rfl, rfl⟩, trivial⟩, fun ext => TL.load hF rfl (by first | exact At.own' (i := 0) rfl rfl | exact At.own' (i := 1) rfl rfl | exact At.own' (i := 2) rfl rfl | exact At.own' (i := 3) rfl rfl | exact At.own' (i := 4) rfl rfl | exact At.own' (i := 5) rfl rfl | exact At.own' (i := 6) rfl rfl | exact At.own' (i := 7) rfl rfl | exact At.own' (i := 8) rfl rfl | exact At.own' (i := 9) rfl rfl | exact At.own' (i := 10) rfl rfl | exact At.own' (i := 11) rfl rfl | exact At.own' (i := 12) rfl rfl) rfl TL.fin⟩, trivial⟩ ?_
              refine DH.k1 (by kernel_rfl) (by kernel_rfl) (by kernel_rfl) (by kernel_rfl) (HBK.mk (h := 11) [10] [] rfl rfl rfl trivial (by kernel_rfl) (fun ext => ?_))
              refine TL.buildSlice hF rfl (cs := #[.int .i64 (-1)]) (e := 3) (fun w => by kernel_rfl) rfl (fun b34 => ?_)
              refine TL.finK ⟨⟨_, rfl, _, _, [(32, _, some 9)], rfl, rfl, ⟨⟨rfl, rfl, rfl⟩, trivial⟩, fun ext => TL.load hF rfl (by first | exact At.own' (i := 0) rfl rfl | exact At.own' (i := 1) rfl rfl | exact At.own' (i := 2) rfl rfl | exact At.own' (i := 3) rfl rfl | exact At.own' (i := 4) rfl rfl | exact At.own' (i := 5) rfl rfl | exact At.own' (i := 6) rfl rfl | exact At.own' (i := 7) rfl rfl | exact At.own' (i := 8) rfl rfl | exact At.own' (i := 9) rfl rfl | exact At.own' (i := 10) rfl rfl | exact At.own' (i := 11) rfl rfl | exact At.own' (i := 12) rfl rfl) rfl TL.fin⟩, trivial⟩ ?_
              refine DH.heavy 12 [(33, _, some 10), (34, _, some 11)] (by kernel_rfl) (by kernel_rfl) (by kernel_rfl) (by kernel_rfl) rfl rfl rfl rfl ⟨⟨rfl, rfl, rfl⟩, ⟨rfl, rfl, rfl⟩, trivial⟩ (by kernel_rfl) (fun ext => ?_)
              first | refine TL.append hF 6 rfl rfl rfl hol (row_own (cs := [.int .i64 (-1)]) (e := 3) List.mem_cons_self).src rfl rfl (by simp [Value.oneCell']) (by omega) (by omega) rfl (fun a3 cap3 seg3 ho3 => ?_) | refine TL.append hF 6 rfl rfl rfl hol (row_own (cs := [.int .i64 (-1)]) (e := 3) (upc _ List.mem_cons_self)).src rfl rfl (by simp [Value.oneCell']) (by omega) (by omega) rfl (fun a3 cap3 seg3 ho3 => ?_) | refine TL.append hF 6 rfl rfl rfl hol (row_own (cs := [.int .i64 (-1)]) (e := 3) (upc _ (upc _ List.mem_cons_self))).src rfl rfl (by simp [Value.oneCell']) (by omega) (by omega) rfl (fun a3 cap3 seg3 ho3 => ?_)
              refine TL.finD ?_
              refine DH.done [(35, _), (34, _), (31, _), (36, _), (27, _), (30, _), (26, _), (33, _), (32, _), (29, _), (28, _), (25, _), (24, _), (23, _)] [_, _, _, _, _] (by kernel_rfl) (by kernel_rfl) (by kernel_rfl) (by kernel_rfl) rfl rfl ?_
              refine TL.storeI hF 3 rfl rfl rfl rfl (by simp) ?_
              refine TL.fieldAddr hF rfl rfl ?_
              refine TL.storeI hF 3 rfl rfl rfl rfl (by simp) ?_
              refine TL.fieldAddr hF rfl rfl ?_
              refine TL.storeI hF 3 rfl rfl rfl rfl (by simp) ?_
              refine TL.nil ?_
              refine TQ.block_n ?_
              refine TQ.then_n ?_
              refine T.region ?_
              refine TL.move hF rfl rfl ?_
              refine TL.add hF rfl rfl (by omega) (by omega) rfl ?_
              refine TL.assign hF rfl rfl ?_
              refine TL.nil ?_
              refine TQ.pop (TQ.pop (TQ.pop ?_))
              rw [intC_snoc] at ho1
              rw [intC_snoc (f := fun _ => -1)] at ho2 ho3
              exact TQ.round (k + 1, a1, cap1, seg1, a2, cap2, seg2, a3, cap3, seg3) ⟨by simp only; omega, ho1, ho2, ho3⟩ (by simp only; omega) ⟨rfl, rfl, rfl, rfl, trivial⟩ rfl
            · refine TL.buildSlice hF rfl (cs := #[.int .i64 (-1)]) (e := 3) (fun w => by kernel_rfl) rfl (fun b34 => ?_)
              refine TL.finK ⟨⟨_, rfl, _, _, [(28, _, some 5)], rfl, rfl, ⟨⟨rfl, rfl, rfl⟩, trivial⟩, fun ext => TL.load hF rfl (by first | exact At.own' (i := 0) rfl rfl | exact At.own' (i := 1) rfl rfl | exact At.own' (i := 2) rfl rfl | exact At.own' (i := 3) rfl rfl | exact At.own' (i := 4) rfl rfl | exact At.own' (i := 5) rfl rfl | exact At.own' (i := 6) rfl rfl | exact At.own' (i := 7) rfl rfl | exact At.own' (i := 8) rfl rfl | exact At.own' (i := 9) rfl rfl | exact At.own' (i := 10) rfl rfl | exact At.own' (i := 11) rfl rfl | exact At.own' (i := 12) rfl rfl) rfl TL.fin⟩, ⟨_, rfl, _, _, [(32, _, some 9)], rfl, rfl, ⟨⟨rfl, rfl, rfl⟩, trivial⟩, fun ext => TL.load hF rfl (by first | exact At.own' (i := 0) rfl rfl | exact At.own' (i := 1) rfl rfl | exact At.own' (i := 2) rfl rfl | exact At.own' (i := 3) rfl rfl | exact At.own' (i := 4) rfl rfl | exact At.own' (i := 5) rfl rfl | exact At.own' (i := 6) rfl rfl | exact At.own' (i := 7) rfl rfl | exact At.own' (i := 8) rfl rfl | exact At.own' (i := 9) rfl rfl | exact At.own' (i := 10) rfl rfl | exact At.own' (i := 11) rfl rfl | exact At.own' (i := 12) rfl rfl) rfl TL.fin⟩, trivial⟩ ?_
              refine DH.k1 (by kernel_rfl) (by kernel_rfl) (by kernel_rfl) (by kernel_rfl) (HBK.mk (h := 8) [10] [(29, _, some 6), (30, _, some 7)] rfl rfl rfl ⟨⟨rfl, rfl, rfl⟩, ⟨rfl, rfl, rfl⟩, trivial⟩ (by kernel_rfl) (fun ext => ?_))
              first | refine TL.append hF 4 rfl rfl rfl hoo (row_own (cs := [.int .i64 (-1)]) (e := 3) List.mem_cons_self).src rfl rfl (by simp [Value.oneCell']) (by omega) (by omega) rfl (fun a2 cap2 seg2 ho2 => ?_) | refine TL.append hF 4 rfl rfl rfl hoo (row_own (cs := [.int .i64 (-1)]) (e := 3) (upc _ List.mem_cons_self)).src rfl rfl (by simp [Value.oneCell']) (by omega) (by omega) rfl (fun a2 cap2 seg2 ho2 => ?_) | refine TL.append hF 4 rfl rfl rfl hoo (row_own (cs := [.int .i64 (-1)]) (e := 3) (upc _ (upc _ List.mem_cons_self))).src rfl rfl (by simp [Value.oneCell']) (by omega) (by omega) rfl (fun a2 cap2 seg2 ho2 => ?_) | refine TL.append hF 5 rfl rfl rfl hoo (row_own (cs := [.int .i64 (-1)]) (e := 3) List.mem_cons_self).src rfl rfl (by simp [Value.oneCell']) (by omega) (by omega) rfl (fun a2 cap2 seg2 ho2 => ?_) | refine TL.append hF 5 rfl rfl rfl hoo (row_own (cs := [.int .i64 (-1)]) (e := 3) (upc _ List.mem_cons_self)).src rfl rfl (by simp [Value.oneCell']) (by omega) (by omega) rfl (fun a2 cap2 seg2 ho2 => ?_) | refine TL.append hF 5 rfl rfl rfl hoo (row_own (cs := [.int .i64 (-1)]) (e := 3) (upc _ (upc _ List.mem_cons_self))).src rfl rfl (by simp [Value.oneCell']) (by omega) (by omega) rfl (fun a2 cap2 seg2 ho2 => ?_)
              refine TL.finK ⟨⟨_, rfl, _, _, [(32, _, some 9)], rfl, rfl, ⟨⟨rfl, rfl, rfl⟩, trivial⟩, fun ext => TL.load hF rfl (by first | exact At.own' (i := 0) rfl rfl | exact At.own' (i := 1) rfl rfl | exact At.own' (i := 2) rfl rfl | exact At.own' (i := 3) rfl rfl | exact At.own' (i := 4) rfl rfl | exact At.own' (i := 5) rfl rfl | exact At.own' (i := 6) rfl rfl | exact At.own' (i := 7) rfl rfl | exact At.own' (i := 8) rfl rfl | exact At.own' (i := 9) rfl rfl | exact At.own' (i := 10) rfl rfl | exact At.own' (i := 11) rfl rfl | exact At.own' (i := 12) rfl rfl) rfl TL.fin⟩, trivial⟩ ?_
              refine DH.heavy 12 [(33, _, some 10), (34, _, some 11)] (by kernel_rfl) (by kernel_rfl) (by kernel_rfl) (by kernel_rfl) rfl rfl rfl rfl ⟨⟨rfl, rfl, rfl⟩, ⟨rfl, rfl, rfl⟩, trivial⟩ (by kernel_rfl) (fun ext => ?_)
              first | refine TL.append hF 6 rfl rfl rfl hol (row_own (cs := [.int .i64 (-1)]) (e := 3) List.mem_cons_self).src rfl rfl (by simp [Value.oneCell']) (by omega) (by omega) rfl (fun a3 cap3 seg3 ho3 => ?_) | refine TL.append hF 6 rfl rfl rfl hol (row_own (cs := [.int .i64 (-1)]) (e := 3) (upc _ List.mem_cons_self)).src rfl rfl (by simp [Value.oneCell']) (by omega) (by omega) rfl (fun a3 cap3 seg3 ho3 => ?_) | refine TL.append hF 6 rfl rfl rfl hol (row_own (cs := [.int .i64 (-1)]) (e := 3) (upc _ (upc _ List.mem_cons_self))).src rfl rfl (by simp [Value.oneCell']) (by omega) (by omega) rfl (fun a3 cap3 seg3 ho3 => ?_)
              refine TL.finD ?_
              refine DH.done [(35, _), (31, _), (34, _), (36, _), (27, _), (30, _), (26, _), (33, _), (32, _), (29, _), (28, _), (25, _), (24, _), (23, _)] [_, _, _, _, _] (by kernel_rfl) (by kernel_rfl) (by kernel_rfl) (by kernel_rfl) rfl rfl ?_
              refine TL.storeI hF 3 rfl rfl rfl rfl (by simp) ?_
              refine TL.fieldAddr hF rfl rfl ?_
              refine TL.storeI hF 3 rfl rfl rfl rfl (by simp) ?_
              refine TL.fieldAddr hF rfl rfl ?_
              refine TL.storeI hF 3 rfl rfl rfl rfl (by simp) ?_
              refine TL.nil ?_
              refine TQ.block_n ?_
              refine TQ.then_n ?_
              refine T.region ?_
              refine TL.move hF rfl rfl ?_
              refine TL.add hF rfl rfl (by omega) (by omega) rfl ?_
              refine TL.assign hF rfl rfl ?_
              refine TL.nil ?_
              refine TQ.pop (TQ.pop (TQ.pop ?_))
              rw [intC_snoc] at ho1
              rw [intC_snoc (f := fun _ => -1)] at ho2 ho3
              exact TQ.round (k + 1, a1, cap1, seg1, a2, cap2, seg2, a3, cap3, seg3) ⟨by simp only; omega, ho1, ho2, ho3⟩ (by simp only; omega) ⟨rfl, rfl, rfl, rfl, trivial⟩ rfl
          · refine TL.buildSlice hF rfl (cs := #[.int .i64 (-1)]) (e := 3) (fun w => by kernel_rfl) rfl (fun b34 => ?_)
            refine TL.finK ⟨⟨_, rfl, _, _, [(23, _, some 0)], rfl, rfl, ⟨⟨rfl, rfl, rfl⟩, trivial⟩, fun ext => TL.load hF rfl (by first | exact At.own' (i := 0) rfl rfl | exact At.own' (i := 1) rfl rfl | exact At.own' (i := 2) rfl rfl | exact At.own' (i := 3) rfl rfl | exact At.own' (i := 4) rfl rfl | exact At.own' (i := 5) rfl rfl | exact At.own' (i := 6) rfl rfl | exact At.own' (i := 7) rfl rfl | exact At.own' (i := 8) rfl rfl | exact At.own' (i := 9) rfl rfl | exact At.own' (i := 10) rfl rfl | exact At.own' (i := 11) rfl rfl | exact At.own' (i := 12) rfl rfl) rfl TL.fin⟩, ⟨_, rfl, _, _, [(28, _, some 5)], rfl, rfl, ⟨⟨rfl, rfl, rfl⟩, trivial⟩, fun ext => TL.load hF rfl (by first | exact At.own' (i := 0) rfl rfl | exact At.own' (i := 1) rfl rfl | exact At.own' (i := 2) rfl rfl | exact At.own' (i := 3) rfl rfl | exact At.own' (i := 4) rfl rfl | exact At.own' (i := 5) rfl rfl | exact At.own' (i := 6) rfl rfl | exact At.own' (i := 7) rfl rfl | exact At.own' (i := 8) rfl rfl | exact At.own' (i := 9) rfl rfl | exact At.own' (i := 10) rfl rfl | exact At.own' (i := 11) rfl rfl | exact At.own' (i := 12) rfl rfl) rfl TL.fin⟩, ⟨_, rfl, _, _, [(32, _, some 9)], rfl, rfl, ⟨⟨rfl, rfl, rfl⟩, trivial⟩, fun ext => TL.load hF rfl (by first | exact At.own' (i := 0) rfl rfl | exact At.own' (i := 1) rfl rfl | exact At.own' (i := 2) rfl rfl | exact At.own' (i := 3) rfl rfl | exact At.own' (i := 4) rfl rfl | exact At.own' (i := 5) rfl rfl | exact At.own' (i := 6) rfl rfl | exact At.own' (i := 7) rfl rfl | exact At.own' (i := 8) rfl rfl | exact At.own' (i := 9) rfl rfl | exact At.own' (i := 10) rfl rfl | exact At.own' (i := 11) rfl rfl | exact At.own' (i := 12) rfl rfl) rfl TL.fin⟩, trivial⟩ ?_
            refine DH.k1 (by kernel_rfl) (by kernel_rfl) (by kernel_rfl) (by kernel_rfl) (HBK.mk (h := 4) [6, 10] [(24, _, some 1), (26, _, some 3)] rfl rfl rfl ⟨⟨rfl, rfl, rfl⟩, ⟨rfl, rfl, rfl⟩, trivial⟩ (by kernel_rfl) (fun ext => ?_))
            first | refine TL.append hF 2 rfl rfl rfl how (row_own (cs := [.int .i64 ((startS l).W k)]) (e := 3) List.mem_cons_self).src rfl rfl (by simp [Value.oneCell']) (by omega) (by omega) rfl (fun a1 cap1 seg1 ho1 => ?_) | refine TL.append hF 2 rfl rfl rfl how (row_own (cs := [.int .i64 ((startS l).W k)]) (e := 3) (upc _ List.mem_cons_self)).src rfl rfl (by simp [Value.oneCell']) (by omega) (by omega) rfl (fun a1 cap1 seg1 ho1 => ?_) | refine TL.append hF 2 rfl rfl rfl how (row_own (cs := [.int .i64 ((startS l).W k)]) (e := 3) (upc _ (upc _ List.mem_cons_self))).src rfl rfl (by simp [Value.oneCell']) (by omega) (by omega) rfl (fun a1 cap1 seg1 ho1 => ?_) | refine TL.append hF 3 rfl rfl rfl how (row_own (cs := [.int .i64 ((startS l).W k)]) (e := 3) List.mem_cons_self).src rfl rfl (by simp [Value.oneCell']) (by omega) (by omega) rfl (fun a1 cap1 seg1 ho1 => ?_) | refine TL.append hF 3 rfl rfl rfl how (row_own (cs := [.int .i64 ((startS l).W k)]) (e := 3) (upc _ List.mem_cons_self)).src rfl rfl (by simp [Value.oneCell']) (by omega) (by omega) rfl (fun a1 cap1 seg1 ho1 => ?_) | refine TL.append hF 3 rfl rfl rfl how (row_own (cs := [.int .i64 ((startS l).W k)]) (e := 3) (upc _ (upc _ List.mem_cons_self))).src rfl rfl (by simp [Value.oneCell']) (by omega) (by omega) rfl (fun a1 cap1 seg1 ho1 => ?_) | refine TL.append hF 4 rfl rfl rfl how (row_own (cs := [.int .i64 ((startS l).W k)]) (e := 3) List.mem_cons_self).src rfl rfl (by simp [Value.oneCell']) (by omega) (by omega) rfl (fun a1 cap1 seg1 ho1 => ?_) | refine TL.append hF 4 rfl rfl rfl how (row_own (cs := [.int .i64 ((startS l).W k)]) (e := 3) (upc _ List.mem_cons_self)).src rfl rfl (by simp [Value.oneCell']) (by omega) (by omega) rfl (fun a1 cap1 seg1 ho1 => ?_) | refine TL.append hF 4 rfl rfl rfl how (row_own (cs := [.int .i64 ((startS l).W k)]) (e := 3) (upc _ (upc _ List.mem_cons_self))).src rfl rfl (by simp [Value.oneCell']) (by omega) (by omega) rfl (fun a1 cap1 seg1 ho1 => ?_)
            refine TL.finK ⟨⟨_, rfl, _, _, [(28, _, some 5)], rfl, rfl, ⟨⟨rfl, rfl, rfl⟩, trivial⟩, fun ext => TL.load hF rfl (by first | exact At.own' (i := 0) rfl rfl | exact At.own' (i := 1) rfl rfl | exact At.own' (i := 2) rfl rfl | exact At.own' (i := 3) rfl rfl | exact At.own' (i := 4) rfl rfl | exact At.own' (i := 5) rfl rfl | exact At.own' (i := 6) rfl rfl | exact At.own' (i := 7) rfl rfl | exact At.own' (i := 8) rfl rfl | exact At.own' (i := 9) rfl rfl | exact At.own' (i := 10) rfl rfl | exact At.own' (i := 11) rfl rfl | exact At.own' (i := 12) rfl rfl) rfl TL.fin⟩, ⟨_, rfl, _, _, [(32, _, some 9)], rfl, rfl, ⟨⟨rfl, rfl, rfl⟩, trivial⟩, fun ext => TL.load hF rfl (by first | exact At.own' (i := 0) rfl rfl | exact At.own' (i := 1) rfl rfl | exact At.own' (i := 2) rfl rfl | exact At.own' (i := 3) rfl rfl | exact At.own' (i := 4) rfl rfl | exact At.own' (i := 5) rfl rfl | exact At.own' (i := 6) rfl rfl | exact At.own' (i := 7) rfl rfl | exact At.own' (i := 8) rfl rfl | exact At.own' (i := 9) rfl rfl | exact At.own' (i := 10) rfl rfl | exact At.own' (i := 11) rfl rfl | exact At.own' (i := 12) rfl rfl) rfl TL.fin⟩, trivial⟩ ?_
            refine DH.pure (i := 13) [(3, _, none)] rfl rfl rfl rfl ⟨⟨rfl, by kernel_rfl⟩, trivial⟩ (fun _ ext => TL.fieldAddr hF rfl rfl TL.fin) ?_
            refine DH.k1 (by kernel_rfl) (by kernel_rfl) (by kernel_rfl) (by kernel_rfl) (HBK.mk (h := 8) [10] [(29, _, some 6), (30, _, some 7)] rfl rfl rfl ⟨⟨rfl, rfl, rfl⟩, ⟨rfl, rfl, rfl⟩, trivial⟩ (by kernel_rfl) (fun ext => ?_))
            first | refine TL.append hF 4 rfl rfl rfl hoo (row_own (cs := [.int .i64 (-1)]) (e := 3) List.mem_cons_self).src rfl rfl (by simp [Value.oneCell']) (by omega) (by omega) rfl (fun a2 cap2 seg2 ho2 => ?_) | refine TL.append hF 4 rfl rfl rfl hoo (row_own (cs := [.int .i64 (-1)]) (e := 3) (upc _ List.mem_cons_self)).src rfl rfl (by simp [Value.oneCell']) (by omega) (by omega) rfl (fun a2 cap2 seg2 ho2 => ?_) | refine TL.append hF 4 rfl rfl rfl hoo (row_own (cs := [.int .i64 (-1)]) (e := 3) (upc _ (upc _ List.mem_cons_self))).src rfl rfl (by simp [Value.oneCell']) (by omega) (by omega) rfl (fun a2 cap2 seg2 ho2 => ?_) | refine TL.append hF 5 rfl rfl rfl hoo (row_own (cs := [.int .i64 (-1)]) (e := 3) List.mem_cons_self).src rfl rfl (by simp [Value.oneCell']) (by omega) (by omega) rfl (fun a2 cap2 seg2 ho2 => ?_) | refine TL.append hF 5 rfl rfl rfl hoo (row_own (cs := [.int .i64 (-1)]) (e := 3) (upc _ List.mem_cons_self)).src rfl rfl (by simp [Value.oneCell']) (by omega) (by omega) rfl (fun a2 cap2 seg2 ho2 => ?_) | refine TL.append hF 5 rfl rfl rfl hoo (row_own (cs := [.int .i64 (-1)]) (e := 3) (upc _ (upc _ List.mem_cons_self))).src rfl rfl (by simp [Value.oneCell']) (by omega) (by omega) rfl (fun a2 cap2 seg2 ho2 => ?_)
            refine TL.finK ⟨⟨_, rfl, _, _, [(32, _, some 9)], rfl, rfl, ⟨⟨rfl, rfl, rfl⟩, trivial⟩, fun ext => TL.load hF rfl (by first | exact At.own' (i := 0) rfl rfl | exact At.own' (i := 1) rfl rfl | exact At.own' (i := 2) rfl rfl | exact At.own' (i := 3) rfl rfl | exact At.own' (i := 4) rfl rfl | exact At.own' (i := 5) rfl rfl | exact At.own' (i := 6) rfl rfl | exact At.own' (i := 7) rfl rfl | exact At.own' (i := 8) rfl rfl | exact At.own' (i := 9) rfl rfl | exact At.own' (i := 10) rfl rfl | exact At.own' (i := 11) rfl rfl | exact At.own' (i := 12) rfl rfl) rfl TL.fin⟩, trivial⟩ ?_
            refine DH.heavy 12 [(33, _, some 10), (34, _, some 11)] (by kernel_rfl) (by kernel_rfl) (by kernel_rfl) (by kernel_rfl) rfl rfl rfl rfl ⟨⟨rfl, rfl, rfl⟩, ⟨rfl, rfl, rfl⟩, trivial⟩ (by kernel_rfl) (fun ext => ?_)
            first | refine TL.append hF 6 rfl rfl rfl hol (row_own (cs := [.int .i64 (-1)]) (e := 3) List.mem_cons_self).src rfl rfl (by simp [Value.oneCell']) (by omega) (by omega) rfl (fun a3 cap3 seg3 ho3 => ?_) | refine TL.append hF 6 rfl rfl rfl hol (row_own (cs := [.int .i64 (-1)]) (e := 3) (upc _ List.mem_cons_self)).src rfl rfl (by simp [Value.oneCell']) (by omega) (by omega) rfl (fun a3 cap3 seg3 ho3 => ?_) | refine TL.append hF 6 rfl rfl rfl hol (row_own (cs := [.int .i64 (-1)]) (e := 3) (upc _ (upc _ List.mem_cons_self))).src rfl rfl (by simp [Value.oneCell']) (by omega) (by omega) rfl (fun a3 cap3 seg3 ho3 => ?_)
            refine TL.finD ?_
            refine DH.done [(35, _), (31, _), (36, _), (27, _), (34, _), (30, _), (26, _), (33, _), (32, _), (29, _), (28, _), (25, _), (24, _), (23, _)] [_, _, _, _, _] (by kernel_rfl) (by kernel_rfl) (by kernel_rfl) (by kernel_rfl) rfl rfl ?_
            refine TL.storeI hF 3 rfl rfl rfl rfl (by simp) ?_
            refine TL.fieldAddr hF rfl rfl ?_
            refine TL.storeI hF 3 rfl rfl rfl rfl (by simp) ?_
            refine TL.fieldAddr hF rfl rfl ?_
            refine TL.storeI hF 3 rfl rfl rfl rfl (by simp) ?_
            refine TL.nil ?_
            refine TQ.block_n ?_
            refine TQ.then_n ?_
            refine T.region ?_
            refine TL.move hF rfl rfl ?_
            refine TL.add hF rfl rfl (by omega) (by omega) rfl ?_
            refine TL.assign hF rfl rfl ?_
            refine TL.nil ?_
            refine TQ.pop (TQ.pop (TQ.pop ?_))
            rw [intC_snoc] at ho1
            rw [intC_snoc (f := fun _ => -1)] at ho2 ho3
            exact TQ.round (k + 1, a1, cap1, seg1, a2, cap2, seg2, a3, cap3, seg3) ⟨by simp only; omega, ho1, ho2, ho3⟩ (by simp only; omega) ⟨rfl, rfl, rfl, rfl, trivial⟩ rfl
        · refine TL.buildSlice hF rfl (cs := #[.int .i64 (-1)]) (e := 3) (fun w => by kernel_rfl) rfl (fun b34 => ?_)
          refine TL.finK ⟨⟨_, rfl, _, _, [(23, _, some 0)], rfl, rfl, ⟨⟨rfl, rfl, rfl⟩, trivial⟩, fun ext => TL.load hF rfl (by first | exact At.own' (i := 0) rfl rfl | exact At.own' (i := 1) rfl rfl | exact At.own' (i := 2) rfl rfl | exact At.own' (i := 3) rfl rfl | exact At.own' (i := 4) rfl rfl | exact At.own' (i := 5) rfl rfl | exact At.own' (i := 6) rfl rfl | exact At.own' (i := 7) rfl rfl | exact At.own' (i := 8) rfl rfl | exact At.own' (i := 9) rfl rfl | exact At.own' (i := 10) rfl rfl | exact At.own' (i := 11) rfl rfl | exact At.own' (i := 12) rfl rfl) rfl TL.fin⟩, ⟨_, rfl, _, _, [(28, _, some 5)], rfl, rfl, ⟨⟨rfl, rfl, rfl⟩, trivial⟩, fun ext => TL.load hF rfl (by first | exact At.own' (i := 0) rfl rfl | exact At.own' (i := 1) rfl rfl | exact At.own' (i := 2) rfl rfl | exact At.own' (i := 3) rfl rfl | exact At.own' (i := 4) rfl rfl | exact At.own' (i := 5) rfl rfl | exact At.own' (i := 6) rfl rfl | exact At.own' (i := 7) rfl rfl | exact At.own' (i := 8) rfl rfl | exact At.own' (i := 9) rfl rfl | exact At.own' (i := 10) rfl rfl | exact At.own' (i := 11) rfl rfl | exact At.own' (i := 12) rfl rfl) rfl TL.fin⟩, ⟨_, rfl, _, _, [(32, _, some 9)], rfl, rfl, ⟨⟨rfl, rfl, rfl⟩, trivial⟩, fun ext => TL.load hF rfl (by first | exact At.own' (i := 0) rfl rfl | exact At.own' (i := 1) rfl rfl | exact At.own' (i := 2) rfl rfl | exact At.own' (i := 3) rfl rfl | exact At.own' (i := 4) rfl rfl | exact At.own' (i := 5) rfl rfl | exact At.own' (i := 6) rfl rfl | exact At.own' (i := 7) rfl rfl | exact At.own' (i := 8) rfl rfl | exact At.own' (i := 9) rfl rfl | exact At.own' (i := 10) rfl rfl | exact At.own' (i := 11) rfl rfl | exact At.own' (i := 12) rfl rfl) rfl TL.fin⟩, trivial⟩ ?_
          refine DH.k2 (by kernel_rfl) (by kernel_rfl) (by kernel_rfl) (by kernel_rfl) (HBK.mk (h := 4) [6, 10] [(24, _, some 1), (26, _, some 3)] rfl rfl rfl ⟨⟨rfl, rfl, rfl⟩, ⟨rfl, rfl, rfl⟩, trivial⟩ (by kernel_rfl) (fun ext => ?_)) (HBK.mk (h := 7) [1, 6, 10] [] rfl rfl rfl trivial (by kernel_rfl) (fun ext => ?_))
          · first | refine TL.append hF 2 rfl rfl rfl how (row_own (cs := [.int .i64 ((startS l).W k)]) (e := 3) List.mem_cons_self).src rfl rfl (by simp [Value.oneCell']) (by omega) (by omega) rfl (fun a1 cap1 seg1 ho1 => ?_) | refine TL.append hF 2 rfl rfl rfl how (row_own (cs := [.int .i64 ((startS l).W k)]) (e := 3) (upc _ List.mem_cons_self)).src rfl rfl (by simp [Value.oneCell']) (by omega) (by omega) rfl (fun a1 cap1 seg1 ho1 => ?_) | refine TL.append hF 2 rfl rfl rfl how (row_own (cs := [.int .i64 ((startS l).W k)]) (e := 3) (upc _ (upc _ List.mem_cons_self))).src rfl rfl (by simp [Value.oneCell']) (by omega) (by omega) rfl (fun a1 cap1 seg1 ho1 => ?_) | refine TL.append hF 3 rfl rfl rfl how (row_own (cs := [.int .i64 ((startS l).W k)]) (e := 3) List.mem_cons_self).src rfl rfl (by simp [Value.oneCell']) (by omega) (by omega) rfl (fun a1 cap1 seg1 ho1 => ?_) | refine TL.append hF 3 rfl rfl rfl how (row_own (cs := [.int .i64 ((startS l).W k)]) (e := 3) (upc _ List.mem_cons_self)).src rfl rfl (by simp [Value.oneCell']) (by omega) (by omega) rfl (fun a1 cap1 seg1 ho1 => ?_) | refine TL.append hF 3 rfl rfl rfl how (row_own (cs := [.int .i64 ((startS l).W k)]) (e := 3) (upc _ (upc _ List.mem_cons_self))).src rfl rfl (by simp [Value.oneCell']) (by omega) (by omega) rfl (fun a1 cap1 seg1 ho1 => ?_) | refine TL.append hF 4 rfl rfl rfl how (row_own (cs := [.int .i64 ((startS l).W k)]) (e := 3) List.mem_cons_self).src rfl rfl (by simp [Value.oneCell']) (by omega) (by omega) rfl (fun a1 cap1 seg1 ho1 => ?_) | refine TL.append hF 4 rfl rfl rfl how (row_own (cs := [.int .i64 ((startS l).W k)]) (e := 3) (upc _ List.mem_cons_self)).src rfl rfl (by simp [Value.oneCell']) (by omega) (by omega) rfl (fun a1 cap1 seg1 ho1 => ?_) | refine TL.append hF 4 rfl rfl rfl how (row_own (cs := [.int .i64 ((startS l).W k)]) (e := 3) (upc _ (upc _ List.mem_cons_self))).src rfl rfl (by simp [Value.oneCell']) (by omega) (by omega) rfl (fun a1 cap1 seg1 ho1 => ?_)
            refine TL.finK ⟨⟨_, rfl, _, _, [(28, _, some 5)], rfl, rfl, ⟨⟨rfl, rfl, rfl⟩, trivial⟩, fun ext => TL.load hF rfl (by first | exact At.own' (i := 0) rfl rfl | exact At.own' (i := 1) rfl rfl | exact At.own' (i := 2) rfl rfl | exact At.own' (i := 3) rfl rfl | exact At.own' (i := 4) rfl rfl | exact At.own' (i := 5) rfl rfl | exact At.own' (i := 6) rfl rfl | exact At.own' (i := 7) rfl rfl | exact At.own' (i := 8) rfl rfl | exact At.own' (i := 9) rfl rfl | exact At.own' (i := 10) rfl rfl | exact At.own' (i := 11) rfl rfl | exact At.own' (i := 12) rfl rfl) rfl TL.fin⟩, ⟨_, rfl, _, _, [(32, _, some 9)], rfl, rfl, ⟨⟨rfl, rfl, rfl⟩, trivial⟩, fun ext => TL.load hF rfl (by first | exact At.own' (i := 0) rfl rfl | exact At.own' (i := 1) rfl rfl | exact At.own' (i := 2) rfl rfl | exact At.own' (i := 3) rfl rfl | exact At.own' (i := 4) rfl rfl | exact At.own' (i := 5) rfl rfl | exact At.own' (i := 6) rfl rfl | exact At.own' (i := 7) rfl rfl | exact At.own' (i := 8) rfl rfl | exact At.own' (i := 9) rfl rfl | exact At.own' (i := 10) rfl rfl | exact At.own' (i := 11) rfl rfl | exact At.own' (i := 12) rfl rfl) rfl TL.fin⟩, trivial⟩ ?_
            refine DH.pure (i := 13) [(3, _, none)] rfl rfl rfl rfl ⟨⟨rfl, by kernel_rfl⟩, trivial⟩ (fun _ ext => TL.fieldAddr hF rfl rfl TL.fin) ?_
            refine DH.k1 (by kernel_rfl) (by kernel_rfl) (by kernel_rfl) (by kernel_rfl) (HBK.mk (h := 7) [6, 10] [] rfl rfl rfl trivial (by kernel_rfl) (fun ext => ?_))
            refine TL.buildSlice hF rfl (cs := #[.int .i64 (-1)]) (e := 3) (fun w => by kernel_rfl) rfl (fun b30 => ?_)
            refine TL.finK ⟨⟨_, rfl, _, _, [(28, _, some 5)], rfl, rfl, ⟨⟨rfl, rfl, rfl⟩, trivial⟩, fun ext => TL.load hF rfl (by first | exact At.own' (i := 0) rfl rfl | exact At.own' (i := 1) rfl rfl | exact At.own' (i := 2) rfl rfl | exact At.own' (i := 3) rfl rfl | exact At.own' (i := 4) rfl rfl | exact At.own' (i := 5) rfl rfl | exact At.own' (i := 6) rfl rfl | exact At.own' (i := 7) rfl rfl | exact At.own' (i := 8) rfl rfl | exact At.own' (i := 9) rfl rfl | exact At.own' (i := 10) rfl rfl | exact At.own' (i := 11) rfl rfl | exact At.own' (i := 12) rfl rfl) rfl TL.fin⟩, ⟨_, rfl, _, _, [(32, _, some 9)], rfl, rfl, ⟨⟨rfl, rfl, rfl⟩, trivial⟩, fun ext => TL.load hF rfl (by first | exact At.own' (i := 0) rfl rfl | exact At.own' (i := 1) rfl rfl | exact At.own' (i := 2) rfl rfl | exact At.own' (i := 3) rfl rfl | exact At.own' (i := 4) rfl rfl | exact At.own' (i := 5) rfl rfl | exact At.own' (i := 6) rfl rfl | exact At.own' (i := 7) rfl rfl | exact At.own' (i := 8) rfl rfl | exact At.own' (i := 9) rfl rfl | exact At.own' (i := 10) rfl rfl | exact At.own' (i := 11) rfl rfl | exact At.own' (i := 12) rfl rfl) rfl TL.fin⟩, trivial⟩ ?_
            refine DH.k1 (by kernel_rfl) (by kernel_rfl) (by kernel_rfl) (by kernel_rfl) (HBK.mk (h := 8) [10] [(29, _, some 6), (30, _, some 7)] rfl rfl rfl ⟨⟨rfl, rfl, rfl⟩, ⟨rfl, rfl, rfl⟩, trivial⟩ (by kernel_rfl) (fun ext => ?_))
            first | refine TL.append hF 4 rfl rfl rfl hoo (row_own (cs := [.int .i64 (-1)]) (e := 3) List.mem_cons_self).src rfl rfl (by simp [Value.oneCell']) (by omega) (by omega) rfl (fun a2 cap2 seg2 ho2 => ?_) | refine TL.append hF 4 rfl rfl rfl hoo (row_own (cs := [.int .i64 (-1)]) (e := 3) (upc _ List.mem_cons_self)).src rfl rfl (by simp [Value.oneCell']) (by omega) (by omega) rfl (fun a2 cap2 seg2 ho2 => ?_) | refine TL.append hF 4 rfl rfl rfl hoo (row_own (cs := [.int .i64 (-1)]) (e := 3) (upc _ (upc _ List.mem_cons_self))).src rfl rfl (by simp [Value.oneCell']) (by omega) (by omega) rfl (fun a2 cap2 seg2 ho2 => ?_) | refine TL.append hF 5 rfl rfl rfl hoo (row_own (cs := [.int .i64 (-1)]) (e := 3) List.mem_cons_self).src rfl rfl (by simp [Value.oneCell']) (by omega) (by omega) rfl (fun a2 cap2 seg2 ho2 => ?_) | refine TL.append hF 5 rfl rfl rfl hoo (row_own (cs := [.int .i64 (-1)]) (e := 3) (upc _ List.mem_cons_self)).src rfl rfl (by simp [Value.oneCell']) (by omega) (by omega) rfl (fun a2 cap2 seg2 ho2 => ?_) | refine TL.append hF 5 rfl rfl rfl hoo (row_own (cs := [.int .i64 (-1)]) (e := 3) (upc _ (upc _ List.mem_cons_self))).src rfl rfl (by simp [Value.oneCell']) (by omega) (by omega) rfl (fun a2 cap2 seg2 ho2 => ?_)
            refine TL.finK ⟨⟨_, rfl, _, _, [(32, _, some 9)], rfl, rfl, ⟨⟨rfl, rfl, rfl⟩, trivial⟩, fun ext => TL.load hF rfl (by first | exact At.own' (i := 0) rfl rfl | exact At.own' (i := 1) rfl rfl | exact At.own' (i := 2) rfl rfl | exact At.own' (i := 3) rfl rfl | exact At.own' (i := 4) rfl rfl | exact At.own' (i := 5) rfl rfl | exact At.own' (i := 6) rfl rfl | exact At.own' (i := 7) rfl rfl | exact At.own' (i := 8) rfl rfl | exact At.own' (i := 9) rfl rfl | exact At.own' (i := 10) rfl rfl | exact At.own' (i := 11) rfl rfl | exact At.own' (i := 12) rfl rfl) rfl TL.fin⟩, trivial⟩ ?_
            refine DH.heavy 12 [(33, _, some 10), (34, _, some 11)] (by kernel_rfl) (by kernel_rfl) (by kernel_rfl) (by kernel_rfl) rfl rfl rfl rfl ⟨⟨rfl, rfl, rfl⟩, ⟨rfl, rfl, rfl⟩, trivial⟩ (by kernel_rfl) (fun ext => ?_)
            first | refine TL.append hF 6 rfl rfl rfl hol (row_own (cs := [.int .i64 (-1)]) (e := 3) List.mem_cons_self).src rfl rfl (by simp [Value.oneCell']) (by omega) (by omega) rfl (fun a3 cap3 seg3 ho3 => ?_) | refine TL.append hF 6 rfl rfl rfl hol (row_own (cs := [.int .i64 (-1)]) (e := 3) (upc _ List.mem_cons_self)).src rfl rfl (by simp [Value.oneCell']) (by omega) (by omega) rfl (fun a3 cap3 seg3 ho3 => ?_) | refine TL.append hF 6 rfl rfl rfl hol (row_own (cs := [.int .i64 (-1)]) (e := 3) (upc _ (upc _ List.mem_cons_self))).src rfl rfl (by simp [Value.oneCell']) (by omega) (by omega) rfl (fun a3 cap3 seg3 ho3 => ?_)
            refine TL.finD ?_
            refine DH.done [(35, _), (31, _), (30, _), (36, _), (27, _), (34, _), (26, _), (33, _), (32, _), (29, _), (28, _), (25, _), (24, _), (23, _)] [_, _, _, _, _] (by kernel_rfl) (by kernel_rfl) (by kernel_rfl) (by kernel_rfl) rfl rfl ?_
            refine TL.storeI hF 3 rfl rfl rfl rfl (by simp) ?_
            refine TL.fieldAddr hF rfl rfl ?_
            refine TL.storeI hF 3 rfl rfl rfl rfl (by simp) ?_
            refine TL.fieldAddr hF rfl rfl ?_
            refine TL.storeI hF 3 rfl rfl rfl rfl (by simp) ?_
            refine TL.nil ?_
            refine TQ.block_n ?_
            refine TQ.then_n ?_
            refine T.region ?_
            refine TL.move hF rfl rfl ?_
            refine TL.add hF rfl rfl (by omega) (by omega) rfl ?_
            refine TL.assign hF rfl rfl ?_
            refine TL.nil ?_
            refine TQ.pop (TQ.pop (TQ.pop ?_))
            rw [intC_snoc] at ho1
            rw [intC_snoc (f := fun _ => -1)] at ho2 ho3
            exact TQ.round (k + 1, a1, cap1, seg1, a2, cap2, seg2, a3, cap3, seg3) ⟨by simp only; omega, ho1, ho2, ho3⟩ (by simp only; omega) ⟨rfl, rfl, rfl, rfl, trivial⟩ rfl
          · refine TL.buildSlice hF rfl (cs := #[.int .i64 (-1)]) (e := 3) (fun w => by kernel_rfl) rfl (fun b30 => ?_)
            refine TL.finK ⟨⟨_, rfl, _, _, [(23, _, some 0)], rfl, rfl, ⟨⟨rfl, rfl, rfl⟩, trivial⟩, fun ext => TL.load hF rfl (by first | exact At.own' (i := 0) rfl rfl | exact At.own' (i := 1) rfl rfl | exact At.own' (i := 2) rfl rfl | exact At.own' (i := 3) rfl rfl | exact At.own' (i := 4) rfl rfl | exact At.own' (i := 5) rfl rfl | exact At.own' (i := 6) rfl rfl | exact At.own' (i := 7) rfl rfl | exact At.own' (i := 8) rfl rfl | exact At.own' (i := 9) rfl rfl | exact At.own' (i := 10) rfl rfl | exact At.own' (i := 11) rfl rfl | exact At.own' (i := 12) rfl rfl) rfl TL.fin⟩, ⟨_, rfl, _, _, [(28, _, some 5)], rfl, rfl, ⟨⟨rfl, rfl, rfl⟩, trivial⟩, fun ext => TL.load hF rfl (by first | exact At.own' (i := 0) rfl rfl | exact At.own' (i := 1) rfl rfl | exact At.own' (i := 2) rfl rfl | exact At.own' (i := 3) rfl rfl | exact At.own' (i := 4) rfl rfl | exact At.own' (i := 5) rfl rfl | exact At.own' (i := 6) rfl rfl | exact At.own' (i := 7) rfl rfl | exact At.own' (i := 8) rfl rfl | exact At.own' (i := 9) rfl rfl | exact At.own' (i := 10) rfl rfl | exact At.own' (i := 11) rfl rfl | exact At.own' (i := 12) rfl rfl) rfl TL.fin⟩, ⟨_, rfl, _, _, [(32, _, some 9)], rfl, rfl, ⟨⟨rfl, rfl, rfl⟩, trivial⟩, fun ext => TL.load hF rfl (by first | exact At.own' (i := 0) rfl rfl | exact At.own' (i := 1) rfl rfl | exact At.own' (i := 2) rfl rfl | exact At.own' (i := 3) rfl rfl | exact At.own' (i := 4) rfl rfl | exact At.own' (i := 5) rfl rfl | exact At.own' (i := 6) rfl rfl | exact At.own' (i := 7) rfl rfl | exact At.own' (i := 8) rfl rfl | exact At.own' (i := 9) rfl rfl | exact At.own' (i := 10) rfl rfl | exact At.own' (i := 11) rfl rfl | exact At.own' (i := 12) rfl rfl) rfl TL.fin⟩, trivial⟩ ?_
            refine DH.k1 (by kernel_rfl) (by kernel_rfl) (by kernel_rfl) (by kernel_rfl) (HBK.mk (h := 4) [6, 10] [(24, _, some 1), (26, _, some 3)] rfl rfl rfl ⟨⟨rfl, rfl, rfl⟩, ⟨rfl, rfl, rfl⟩, trivial⟩ (by kernel_rfl) (fun ext => ?_))
            first | refine TL.append hF 2 rfl rfl rfl how (row_own (cs := [.int .i64 ((startS l).W k)]) (e := 3) List.mem_cons_self).src rfl rfl (by simp [Value.oneCell']) (by omega) (by omega) rfl (fun a1 cap1 seg1 ho1 => ?_) | refine TL.append hF 2 rfl rfl rfl how (row_own (cs := [.int .i64 ((startS l).W k)]) (e := 3) (upc _ List.mem_cons_self)).src rfl rfl (by simp [Value.oneCell']) (by omega) (by omega) rfl (fun a1 cap1 seg1 ho1 => ?_) | refine TL.append hF 2 rfl rfl rfl how (row_own (cs := [.int .i64 ((startS l).W k)]) (e := 3) (upc _ (upc _ List.mem_cons_self))).src rfl rfl (by simp [Value.oneCell']) (by omega) (by omega) rfl (fun a1 cap1 seg1 ho1 => ?_) | refine TL.append hF 3 rfl rfl rfl how (row_own (cs := [.int .i64 ((startS l).W k)]) (e := 3) List.mem_cons_self).src rfl rfl (by simp [Value.oneCell']) (by omega) (by omega) rfl (fun a1 cap1 seg1 ho1 => ?_) | refine TL.append hF 3 rfl rfl rfl how (row_own (cs := [.int .i64 ((startS l).W k)]) (e := 3) (upc _ List.mem_cons_self)).src rfl rfl (by simp [Value.oneCell']) (by omega) (by omega) rfl (fun a1 cap1 seg1 ho1 => ?_) | refine TL.append hF 3 rfl rfl rfl how (row_own (cs := [.int .i64 ((startS l).W k)]) (e := 3) (upc _ (upc _ List.mem_cons_self))).src rfl rfl (by simp [Value.oneCell']) (by omega) (by omega) rfl (fun a1 cap1 seg1 ho1 => ?_) | refine TL.append hF 4 rfl rfl rfl how (row_own (cs := [.int .i64 ((startS l).W k)]) (e := 3) List.mem_cons_self).src rfl rfl (by simp [Value.oneCell']) (by omega) (by omega) rfl (fun a1 cap1 seg1 ho1 => ?_) | refine TL.append hF 4 rfl rfl rfl how (row_own (cs := [.int .i64 ((startS l).W k)]) (e := 3) (upc _ List.mem_cons_self)).src rfl rfl (by simp [Value.oneCell']) (by omega) (by omega) rfl (fun a1 cap1 seg1 ho1 => ?_) | refine TL.append hF 4 rfl rfl rfl how (row_own (cs := [.int .i64 ((startS l).W k)]) (e := 3) (upc _ (upc _ List.mem_cons_self))).src rfl rfl (by simp [Value.oneCell']) (by omega) (by omega) rfl (fun a1 cap1 seg1 ho1 => ?_)
            refine TL.finK ⟨⟨_, rfl, _, _, [(28, _, some 5)], rfl, rfl, ⟨⟨rfl, rfl, rfl⟩, trivial⟩, fun ext => TL.load hF rfl (by first | exact At.own' (i := 0) rfl rfl | exact At.own' (i := 1) rfl rfl | exact At.own' (i := 2) rfl rfl | exact At.own' (i := 3) rfl rfl | exact At.own' (i := 4) rfl rfl | exact At.own' (i := 5) rfl rfl | exact At.own' (i := 6) rfl rfl | exact At.own' (i := 7) rfl rfl | exact At.own' (i := 8) rfl rfl | exact At.own' (i := 9) rfl rfl | exact At.own' (i := 10) rfl rfl | exact At.own' (i := 11) rfl rfl | exact At.own' (i := 12) rfl rfl) rfl TL.fin⟩, ⟨_, rfl, _, _, [(32, _, some 9)], rfl, rfl, ⟨⟨rfl, rfl, rfl⟩, trivial⟩, fun ext => TL.load hF rfl (by first | exact At.own' (i := 0) rfl rfl | exact At.own' (i := 1) rfl rfl | exact At.own' (i := 2) rfl rfl | exact At.own' (i := 3) rfl rfl | exact At.own' (i := 4) rfl rfl | exact At.own' (i := 5) rfl rfl | exact At.own' (i := 6) rfl rfl | exact At.own' (i := 7) rfl rfl | exact At.own' (i := 8) rfl rfl | exact At.own' (i := 9) rfl rfl | exact At.own' (i := 10) rfl rfl | exact At.own' (i := 11) rfl rfl | exact At.own' (i := 12) rfl rfl) rfl TL.fin⟩, trivial⟩ ?_
            refine DH.pure (i := 13) [(3, _, none)] rfl rfl rfl rfl ⟨⟨rfl, by kernel_rfl⟩, trivial⟩ (fun _ ext => TL.fieldAddr hF rfl rfl TL.fin) ?_
            refine DH.k1 (by kernel_rfl) (by kernel_rfl) (by kernel_rfl) (by kernel_rfl) (HBK.mk (h := 8) [10] [(29, _, some 6), (30, _, some 7)] rfl rfl rfl ⟨⟨rfl, rfl, rfl⟩, ⟨rfl, rfl, rfl⟩, trivial⟩ (by kernel_rfl) (fun ext => ?_))
            first | refine TL.append hF 4 rfl rfl rfl hoo (row_own (cs := [.int .i64 (-1)]) (e := 3) List.mem_cons_self).src rfl rfl (by simp [Value.oneCell']) (by omega) (by omega) rfl (fun a2 cap2 seg2 ho2 => ?_) | refine TL.append hF 4 rfl rfl rfl hoo (row_own (cs := [.int .i64 (-1)]) (e := 3) (upc _ List.mem_cons_self)).src rfl rfl (by simp [Value.oneCell']) (by omega) (by omega) rfl (fun a2 cap2 seg2 ho2 => ?_) | refine TL.append hF 4 rfl rfl rfl hoo (row_own (cs := [.int .i64 (-1)]) (e := 3) (upc _ (upc _ List.mem_cons_self))).src rfl rfl (by simp [Value.oneCell']) (by omega) (by omega) rfl (fun a2 cap2 seg2 ho2 => ?_) | refine TL.append hF 5 rfl rfl rfl hoo (row_own (cs := [.int .i64 (-1)]) (e := 3) List.mem_cons_self).src rfl rfl (by simp [Value.oneCell']) (by omega) (by omega) rfl (fun a2 cap2 seg2 ho2 => ?_) | refine TL.append hF 5 rfl rfl rfl hoo (row_own (cs := [.int .i64 (-1)]) (e := 3) (upc _ List.mem_cons_self)).src rfl rfl (by simp [Value.oneCell']) (by omega) (by omega) rfl (fun a2 cap2 seg2 ho2 => ?_) | refine TL.append hF 5 rfl rfl rfl hoo (row_own (cs := [.int .i64 (-1)]) (e := 3) (upc _ (upc _ List.mem_cons_self))).src rfl rfl (by simp [Value.oneCell']) (by omega) (by omega) rfl (fun a2 cap2 seg2 ho2 => ?_)
            refine TL.finK ⟨⟨_, rfl, _, _, [(32, _, some 9)], rfl, rfl, ⟨⟨rfl, rfl, rfl⟩, trivial⟩, fun ext => TL.load hF rfl (by first | exact At.own' (i := 0) rfl rfl | exact At.own' (i := 1) rfl rfl | exact At.own' (i := 2) rfl rfl | exact At.own' (i := 3) rfl rfl | exact At.own' (i := 4) rfl rfl | exact At.own' (i := 5) rfl rfl | exact At.own' (i := 6) rfl rfl | exact At.own' (i := 7) rfl rfl | exact At.own' (i := 8) rfl rfl | exact At.own' (i := 9) rfl rfl | exact At.own' (i := 10) rfl rfl | exact At.own' (i := 11) rfl rfl | exact At.own' (i := 12) rfl rfl) rfl TL.fin⟩, trivial⟩ ?_
            refine DH.heavy 12 [(33, _, some 10), (34, _, some 11)] (by kernel_rfl) (by kernel_rfl) (by kernel_rfl) (by kernel_rfl) rfl rfl rfl rfl ⟨⟨rfl, rfl, rfl⟩, ⟨rfl, rfl, rfl⟩, trivial⟩ (by kernel_rfl) (fun ext => ?_)
            first | refine TL.append hF 6 rfl rfl rfl hol (row_own (cs := [.int .i64 (-1)]) (e := 3) List.mem_cons_self).src rfl rfl (by simp [Value.oneCell']) (by omega) (by omega) rfl (fun a3 cap3 seg3 ho3 => ?_) | refine TL.append hF 6 rfl rfl rfl hol (row_own (cs := [.int .i64 (-1)]) (e := 3) (upc _ List.mem_cons_self)).src rfl rfl (by simp [Value.oneCell']) (by omega) (by omega) rfl (fun a3 cap3 seg3 ho3 => ?_) | refine TL.append hF 6 rfl rfl rfl hol (row_own (cs := [.int .i64 (-1)]) (e := 3) (upc _ (upc _ List.mem_cons_self))).src rfl rfl (by simp [Value.oneCell']) (by omega) (by omega) rfl (fun a3 cap3 seg3 ho3 => ?_)
            refine TL.finD ?_
            refine DH.done [(35, _), (31, _), (36, _), (27, _), (30, _), (34, _), (26, _), (33, _), (32, _), (29, _), (28, _), (25, _), (24, _), (23, _)] [_, _, _, _, _] (by kernel_rfl) (by kernel_rfl) (by kernel_rfl) (by kernel_rfl) rfl rfl ?_
            refine TL.storeI hF 3 rfl rfl rfl rfl (by simp) ?_
            refine TL.fieldAddr hF rfl rfl ?_
            refine TL.storeI hF 3 rfl rfl rfl rfl (by simp) ?_
            refine TL.fieldAddr hF rfl rfl ?_
            refine TL.storeI hF 3 rfl rfl rfl rfl (by simp) ?_
            refine TL.nil ?_
            refine TQ.block_n ?_
            refine TQ.then_n ?_
            refine T.region ?_
            refine TL.move hF rfl rfl ?_
            refine TL.add hF rfl rfl (by omega) (by omega) rfl ?_
            refine TL.assign hF rfl rfl ?_
            refine TL.nil ?_
            refine TQ.pop (TQ.pop (TQ.pop ?_))
            rw [intC_snoc] at ho1
            rw [intC_snoc (f := fun _ => -1)] at ho2 ho3
            exact TQ.round (k + 1, a1, cap1, seg1, a2, cap2, seg2, a3, cap3, seg3) ⟨by simp only; omega, ho1, ho2, ho3⟩ (by simp only; omega) ⟨rfl, rfl, rfl, rfl, trivial⟩ rfl
      · refine TL.buildSlice hF rfl (cs := #[.int .i64 (-1)]) (e := 3) (fun w => by kernel_rfl) rfl (fun b30 => ?_)
        refine TL.finK ⟨⟨_, rfl, _, _, [(23, _, some 0)], rfl, rfl, ⟨⟨rfl, rfl, rfl⟩, trivial⟩, fun ext => TL.load hF rfl (by first | exact At.own' (i := 0) rfl rfl | exact At.own' (i := 1) rfl rfl | exact At.own' (i := 2) rfl rfl | exact At.own' (i := 3) rfl rfl | exact At.own' (i := 4) rfl rfl | exact At.own' (i := 5) rfl rfl | exact At.own' (i := 6) rfl rfl | exact At.own' (i := 7) rfl rfl | exact At.own' (i := 8) rfl rfl | exact At.own' (i := 9) rfl rfl | exact At.own' (i := 10) rfl rfl | exact At.own' (i := 11) rfl rfl | exact At.own' (i := 12) rfl rfl) rfl TL.fin⟩, ⟨_, rfl, _, _, [(28, _, some 5)], rfl, rfl, ⟨⟨rfl, rfl, rfl⟩, trivial⟩, fun ext => TL.load hF rfl (by first | exact At.own' (i := 0) rfl rfl | exact At.own' (i := 1) rfl rfl | exact At.own' (i := 2) rfl rfl | exact At.own' (i := 3) rfl rfl | exact At.own' (i := 4) rfl rfl | exact At.own' (i := 5) rfl rfl | exact At.own' (i := 6) rfl rfl | exact At.own' (i := 7) rfl rfl | exact At.own' (i := 8) rfl rfl | exact At.own' (i := 9) rfl rfl | exact At.own' (i := 10) rfl rfl | exact At.own' (i := 11) rfl rfl | exact At.own' (i := 12) rfl rfl) rfl TL.fin⟩, ⟨_, rfl, _, _, [(32, _, some 9)], rfl, rfl, ⟨⟨rfl, rfl, rfl⟩, trivial⟩, fun ext => TL.load hF rfl (by first | exact At.own' (i := 0) rfl rfl | exact At.own' (i := 1) rfl rfl | exact At.own' (i := 2) rfl rfl | exact At.own' (i := 3) rfl rfl | exact At.own' (i := 4) rfl rfl | exact At.own' (i := 5) rfl rfl | exact At.own' (i := 6) rfl rfl | exact At.own' (i := 7) rfl rfl | exact At.own' (i := 8) rfl rfl | exact At.own' (i := 9) rfl rfl | exact At.own' (i := 10) rfl rfl | exact At.own' (i := 11) rfl rfl | exact At.own' (i := 12) rfl rfl) rfl TL.fin⟩, trivial⟩ ?_
        refine DH.k2 (by kernel_rfl) (by kernel_rfl) (by kernel_rfl) (by kernel_rfl) (HBK.mk (h := 3) [1, 6, 10] [(25, _, some 2)] rfl rfl rfl ⟨⟨rfl, rfl, rfl⟩, trivial⟩ (by kernel_rfl) (fun ext => ?_)) (HBK.mk (h := 11) [1, 6, 10] [] rfl rfl rfl trivial (by kernel_rfl) (fun ext => ?_))
        · refine TL.buildSlice hF rfl (cs := #[.int .i64 ((startS l).W k)]) (e := 3) (fun w => by kernel_rfl) rfl (fun b26 => ?_)
          refine TL.finK ⟨⟨_, rfl, _, _, [(23, _, some 0)], rfl, rfl, ⟨⟨rfl, rfl, rfl⟩, trivial⟩, fun ext => TL.load hF rfl (by first | exact At.own' (i := 0) rfl rfl | exact At.own' (i := 1) rfl rfl | exact At.own' (i := 2) rfl rfl | exact At.own' (i := 3) rfl rfl | exact At.own' (i := 4) rfl rfl | exact At.own' (i := 5) rfl rfl | exact At.own' (i := 6) rfl rfl | exact At.own' (i := 7) rfl rfl | exact At.own' (i := 8) rfl rfl | exact At.own' (i := 9) rfl rfl | exact At.own' (i := 10) rfl rfl | exact At.own' (i := 11) rfl rfl | exact At.own' (i := 12) rfl rfl) rfl TL.fin⟩, ⟨_, rfl, _, _, [(28, _, some 5)], rfl, rfl, ⟨⟨rfl, rfl, rfl⟩, trivial⟩, fun ext => TL.load hF rfl (by first | exact At.own' (i := 0) rfl rfl | exact At.own' (i := 1) rfl rfl | exact At.own' (i := 2) rfl rfl | exact At.own' (i := 3) rfl rfl | exact At.own' (i := 4) rfl rfl | exact At.own' (i := 5) rfl rfl | exact At.own' (i := 6) rfl rfl | exact At.own' (i := 7) rfl rfl | exact At.own' (i := 8) rfl rfl | exact At.own' (i := 9) rfl rfl | exact At.own' (i := 10) rfl rfl | exact At.own' (i := 11) rfl rfl | exact At.own' (i := 12) rfl rfl) rfl TL.fin⟩, ⟨_, rfl, _, _, [(32, _, some 9)], rfl, rfl, ⟨⟨rfl, rfl, rfl⟩, trivial⟩, fun ext => TL.load hF rfl (by first | exact At.own' (i := 0) rfl rfl | exact At.own' (i := 1) rfl rfl | exact At.own' (i := 2) rfl rfl | exact At.own' (i := 3) rfl rfl | exact At.own' (i := 4) rfl rfl | exact At.own' (i := 5) rfl rfl | exact At.own' (i := 6) rfl rfl | exact At.own' (i := 7) rfl rfl | exact At.own' (i := 8) rfl rfl | exact At.own' (i := 9) rfl rfl | exact At.own' (i := 10) rfl rfl | exact At.own' (i := 11) rfl rfl | exact At.own' (i := 12) rfl rfl) rfl TL.fin⟩, trivial⟩ ?_
          refine DH.k2 (by kernel_rfl) (by kernel_rfl) (by kernel_rfl) (by kernel_rfl) (HBK.mk (h := 4) [6, 10] [(24, _, some 1), (26, _, some 3)] rfl rfl rfl ⟨⟨rfl, rfl, rfl⟩, ⟨rfl, rfl, rfl⟩, trivial⟩ (by kernel_rfl) (fun ext => ?_)) (HBK.mk (h := 11) [1, 6, 10] [] rfl rfl rfl trivial (by kernel_rfl) (fun ext => ?_))
          · first | refine TL.append hF 2 rfl rfl rfl how (row_own (cs := [.int .i64 ((startS l).W k)]) (e := 3) List.mem_cons_self).src rfl rfl (by simp [Value.oneCell']) (by omega) (by omega) rfl (fun a1 cap1 seg1 ho1 => ?_) | refine TL.append hF 2 rfl rfl rfl how (row_own (cs := [.int .i64 ((startS l).W k)]) (e := 3) (upc _ List.mem_cons_self)).src rfl rfl (by simp [Value.oneCell']) (by omega) (by omega) rfl (fun a1 cap1 seg1 ho1 => ?_) | refine TL.append hF 2 rfl rfl rfl how (row_own (cs := [.int .i64 ((startS l).W k)]) (e := 3) (upc _ (upc _ List.mem_cons_self))).src rfl rfl (by simp [Value.oneCell']) (by omega) (by omega) rfl (fun a1 cap1 seg1 ho1 => ?_) | refine TL.append hF 3 rfl rfl rfl how (row_own (cs := [.int .i64 ((startS l).W k)]) (e := 3) List.mem_cons_self).src rfl rfl (by simp [Value.oneCell']) (by omega) (by omega) rfl (fun a1 cap1 seg1 ho1 => ?_) | refine TL.append hF 3 rfl rfl rfl how (row_own (cs := [.int .i64 ((startS l).W k)]) (e := 3) (upc _ List.mem_cons_self)).src rfl rfl (by simp [Value.oneCell']) (by omega) (by omega) rfl (fun a1 cap1 seg1 ho1 => ?_) | refine TL.append hF 3 rfl rfl rfl how (row_own (cs := [.int .i64 ((startS l).W k)]) (e := 3) (upc _ (upc _ List.mem_cons_self))).src rfl rfl (by simp [Value.oneCell']) (by omega) (by omega) rfl (fun a1 cap1 seg1 ho1 => ?_) | refine TL.append hF 4 rfl rfl rfl how (row_own (cs := [.int .i64 ((startS l).W k)]) (e := 3) List.mem_cons_self).src rfl rfl (by simp [Value.oneCell']) (by omega) (by omega) rfl (fun a1 cap1 seg1 ho1 => ?_) | refine TL.append hF 4 rfl rfl rfl how (row_own (cs := [.int .i64 ((startS l).W k)]) (e := 3) (upc _ List.mem_cons_self)).src rfl rfl (by simp [Value.oneCell']) (by omega) (by omega) rfl (fun a1 cap1 seg1 ho1 => ?_) | refine TL.append hF 4 rfl rfl rfl how (row_own (cs := [.int .i64 ((startS l).W k)]) (e := 3) (upc _ (upc _ List.mem_cons_self))).src rfl rfl (by simp [Value.oneCell']) (by omega) (by omega) rfl (fun a1 cap1 seg1 ho1 => ?_)
            refine TL.finK ⟨⟨_, rfl, _, _, [(28, _, some 5)], rfl, rfl, ⟨⟨rfl, rfl, rfl⟩, trivial⟩, fun ext => TL.load hF rfl (by first | exact At.own' (i := 0) rfl rfl | exact At.own' (i := 1) rfl rfl | exact At.own' (i := 2) rfl rfl | exact At.own' (i := 3) rfl rfl | exact At.own' (i := 4) rfl rfl | exact At.own' (i := 5) rfl rfl | exact At.own' (i := 6) rfl rfl | exact At.own' (i := 7) rfl rfl | exact At.own' (i := 8) rfl rfl | exact At.own' (i := 9) rfl rfl | exact At.own' (i := 10) rfl rfl | exact At.own' (i := 11) rfl rfl | exact At.own' (i := 12) rfl rfl) rfl TL.fin⟩, ⟨_, rfl, _, _, [(32, _, some 9)], rfl, rfl, ⟨⟨rfl, rfl, rfl⟩, trivial⟩, fun ext => TL.load hF rfl (by first | exact At.own' (i := 0) rfl rfl | exact At.own' (i := 1) rfl rfl | exact At.own' (i := 2) rfl rfl | exact At.own' (i := 3) rfl rfl | exact At.own' (i := 4) rfl rfl | exact At.own' (i := 5) rfl rfl | exact At.own' (i := 6) rfl rfl | exact At.own' (i := 7) rfl rfl | exact At.own' (i := 8) rfl rfl | exact At.own' (i := 9) rfl rfl | exact At.own' (i := 10) rfl rfl | exact At.own' (i := 11) rfl rfl | exact At.own' (i := 12) rfl rfl) rfl TL.fin⟩, trivial⟩ ?_
            refine DH.pure (i := 13) [(3, _, none)] rfl rfl rfl rfl ⟨⟨rfl, by kernel_rfl⟩, trivial⟩ (fun _ ext => TL.fieldAddr hF rfl rfl TL.fin) ?_
            refine DH.k2 (by kernel_rfl) (by kernel_rfl) (by kernel_rfl) (by kernel_rfl) (HBK.mk (h := 8) [10] [(29, _, some 6), (30, _, some 7)] rfl rfl rfl ⟨⟨rfl, rfl, rfl⟩, ⟨rfl, rfl, rfl⟩, trivial⟩ (by kernel_rfl) (fun ext => ?_)) (HBK.mk (h := 11) [6, 10] [] rfl rfl rfl trivial (by kernel_rfl) (fun ext => ?_))
            · first | refine TL.append hF 4 rfl rfl rfl hoo (row_own (cs := [.int .i64 (-1)]) (e := 3) List.mem_cons_self).src rfl rfl (by simp [Value.oneCell']) (by omega) (by omega) rfl (fun a2 cap2 seg2 ho2 => ?_) | refine TL.append hF 4 rfl rfl rfl hoo (row_own (cs := [.int .i64 (-1)]) (e := 3) (upc _ List.mem_cons_self)).src rfl rfl (by simp [Value.oneCell']) (by omega) (by omega) rfl (fun a2 cap2 seg2 ho2 => ?_) | refine TL.append hF 4 rfl rfl rfl hoo (row_own (cs := [.int .i64 (-1)]) (e := 3) (upc _ (upc _ List.mem_cons_self))).src rfl rfl (by simp [Value.oneCell']) (by omega) (by omega) rfl (fun a2 cap2 seg2 ho2 => ?_) | refine TL.append hF 5 rfl rfl rfl hoo (row_own (cs := [.int .i64 (-1)]) (e := 3) List.mem_cons_self).src rfl rfl (by simp [Value.oneCell']) (by omega) (by omega) rfl (fun a2 cap2 seg2 ho2 => ?_) | refine TL.append hF 5 rfl rfl rfl hoo (row_own (cs := [.int .i64 (-1)]) (e := 3) (upc _ List.mem_cons_self)).src rfl rfl (by simp [Value.oneCell']) (by omega) (by omega) rfl (fun a2 cap2 seg2 ho2 => ?_) | refine TL.append hF 5 rfl rfl rfl hoo (row_own (cs := [.int .i64 (-1)]) (e := 3) (upc _ (upc _ List.mem_cons_self))).src rfl rfl (by simp [Value.oneCell']) (by omega) (by omega) rfl (fun a2 cap2 seg2 ho2 => ?_)
              refine TL.finK ⟨⟨_, rfl, _, _, [(32, _, some 9)], rfl, rfl, ⟨⟨rfl, rfl, rfl⟩, trivial⟩, fun ext => TL.load hF rfl (by first | exact At.own' (i := 0) rfl rfl | exact At.own' (i := 1) rfl rfl | exact At.own' (i := 2) rfl rfl | exact At.own' (i := 3) rfl rfl | exact At.own' (i := 4) rfl rfl | exact At.own' (i := 5) rfl rfl | exact At.own' (i := 6) rfl rfl | exact At.own' (i := 7) rfl rfl | exact At.own' (i := 8) rfl rfl | exact At.own' (i := 9) rfl rfl | exact At.own' (i := 10) rfl rfl | exact At.own' (i := 11) rfl rfl | exact At.own' (i := 12) rfl rfl) rfl TL.fin⟩, trivial⟩ ?_
              refine DH.k1 (by kernel_rfl) (by kernel_rfl) (by kernel_rfl) (by kernel_rfl) (HBK.mk (h := 11) [10] [] rfl rfl rfl trivial (by kernel_rfl) (fun ext => ?_))
              refine TL.buildSlice hF rfl (cs := #[.int .i64 (-1)]) (e := 3) (fun w => by kernel_rfl) rfl (fun b34 => ?_)
              refine TL.finK ⟨⟨_, rfl, _, _, [(32, _, some 9)], rfl, rfl, ⟨⟨rfl, rfl, rfl⟩, trivial⟩, fun ext => TL.load hF rfl (by first | exact At.own' (i := 0) rfl rfl | exact At.own' (i := 1) rfl rfl | exact At.own' (i := 2) rfl rfl | exact At.own' (i := 3) rfl rfl | exact At.own' (i := 4) rfl rfl | exact At.own' (i := 5) rfl rfl | exact At.own' (i := 6) rfl rfl | exact At.own' (i := 7) rfl rfl | exact At.own' (i := 8) rfl rfl | exact At.own' (i := 9) rfl rfl | exact At.own' (i := 10) rfl rfl | exact At.own' (i := 11) rfl rfl | exact At.own' (i := 12) rfl rfl) rfl TL.fin⟩, trivial⟩ ?_
              refine DH.heavy 12 [(33, _, some 10), (34, _, some 11)] (by kernel_rfl) (by kernel_rfl) (by kernel_rfl) (by kernel_rfl) rfl rfl rfl rfl ⟨⟨rfl, rfl, rfl⟩, ⟨rfl, rfl, rfl⟩, trivial⟩ (by kernel_rfl) (fun ext => ?_)
              first | refine TL.append hF 6 rfl rfl rfl hol (row_own (cs := [.int .i64 (-1)]) (e := 3) List.mem_cons_self).src rfl rfl (by simp [Value.oneCell']) (by omega) (by omega) rfl (fun a3 cap3 seg3 ho3 => ?_) | refine TL.append hF 6 rfl rfl rfl hol (row_own (cs := [.int .i64 (-1)]) (e := 3) (upc _ List.mem_cons_self)).src rfl rfl (by simp [Value.oneCell']) (by omega) (by omega) rfl (fun a3 cap3 seg3 ho3 => ?_) | refine TL.append hF 6 rfl rfl rfl hol (row_own (cs := [.int .i64 (-1)]) (e := 3) (upc _ (upc _ List.mem_cons_self))).src rfl rfl (by simp [Value.oneCell']) (by omega) (by omega) rfl (fun a3 cap3 seg3 ho3 => ?_)
              refine TL.finD ?_
              refine DH.done [(35, _), (34, _), (31, _), (36, _), (27, _), (26, _), (30, _), (33, _), (32, _), (29, _), (28, _), (25, _), (24, _), (23, _)] [_, _, _, _, _] (by kernel_rfl) (by kernel_rfl) (by kernel_rfl) (by kernel_rfl) rfl rfl ?_
              refine TL.storeI hF 3 rfl rfl rfl rfl (by simp) ?_
              refine TL.fieldAddr hF rfl rfl ?_
              refine TL.storeI hF 3 rfl rfl rfl rfl (by simp) ?_
              refine TL.fieldAddr hF rfl rfl ?_
              refine TL.storeI hF 3 rfl rfl rfl rfl (by simp) ?_
              refine TL.nil ?_
              refine TQ.block_n ?_
              refine TQ.then_n ?_
              refine T.region ?_
              refine TL.move hF rfl rfl ?_
              refine TL.add hF rfl rfl (by omega) (by omega) rfl ?_
              refine TL.assign hF rfl rfl ?_
              refine TL.nil ?_
              refine TQ.pop (TQ.pop (TQ.pop ?_))
              rw [intC_snoc] at ho1
              rw [intC_snoc (f := fun _ => -1)] at ho2 ho3
              exact TQ.round (k + 1, a1, cap1, seg1, a2, cap2, seg2, a3, cap3, seg3) ⟨by simp only; omega, ho1, ho2, ho3⟩ (by simp only; omega) ⟨rfl, rfl, rfl, rfl, trivial⟩ rfl
            · refine TL.buildSlice hF rfl (cs := #[.int .i64 (-1)]) (e := 3) (fun w => by kernel_rfl) rfl (fun b34 => ?_)
              refine TL.finK ⟨⟨_, rfl, _, _, [(28, _, some 5)], rfl, rfl, ⟨⟨rfl, rfl, rfl⟩, trivial⟩, fun ext => TL.load hF rfl (by first | exact At.own' (i := 0) rfl rfl | exact At.own' (i := 1) rfl rfl | exact At.own' (i := 2) rfl rfl | exact At.own' (i := 3) rfl rfl | exact At.own' (i := 4) rfl rfl | exact At.own' (i := 5) rfl rfl | exact At.own' (i := 6) rfl rfl | exact At.own' (i := 7) rfl rfl | exact At.own' (i := 8) rfl rfl | exact At.own' (i := 9) rfl rfl | exact At.own' (i := 10) rfl rfl | exact At.own' (i := 11) rfl rfl | exact At.own' (i := 12) rfl rfl) rfl TL.fin⟩, ⟨_, rfl, _, _, [(32, _, some 9)], rfl, rfl, ⟨⟨rfl, rfl, rfl⟩, trivial⟩, fun ext => TL.load hF rfl (by first | exact At.own' (i := 0) rfl rfl | exact At.own' (i := 1) rfl rfl | exact At.own' (i := 2) rfl rfl | exact At.own' (i := 3) rfl rfl | exact At.own' (i := 4) rfl rfl | exact At.own' (i := 5) rfl rfl | exact At.own' (i := 6) rfl rfl | exact At.own' (i := 7) rfl rfl | exact At.own' (i := 8) rfl rfl | exact At.own' (i := 9) rfl rfl | exact At.own' (i := 10) rfl rfl | exact At.own' (i := 11) rfl rfl | exact At.own' (i := 12) rfl rfl) rfl TL.fin⟩, trivial⟩ ?_
              refine DH.k1 (by kernel_rfl) (by kernel_rfl) (by kernel_rfl) (by kernel_rfl) (HBK.mk (h := 8) [10] [(29, _, some 6), (30, _, some 7)] rfl rfl rfl ⟨⟨rfl, rfl, rfl⟩, ⟨rfl, rfl, rfl⟩, trivial⟩ (by kernel_rfl) (fun ext => ?_))
              first | refine TL.append hF 4 rfl rfl rfl hoo (row_own (cs := [.int .i64 (-1)]) (e := 3) List.mem_cons_self).src rfl rfl (by simp [Value.oneCell']) (by omega) (by omega) rfl (fun a2 cap2 seg2 ho2 => ?_) | refine TL.append hF 4 rfl rfl rfl hoo (row_own (cs := [.int .i64 (-1)]) (e := 3) (upc _ List.mem_cons_self)).src rfl rfl (by simp [Value.oneCell']) (by omega) (by omega) rfl (fun a2 cap2 seg2 ho2 => ?_) | refine TL.append hF 4 rfl rfl rfl hoo (row_own (cs := [.int .i64 (-1)]) (e := 3) (upc _ (upc _ List.mem_cons_self))).src rfl rfl (by simp [Value.oneCell']) (by omega) (by omega) rfl (fun a2 cap2 seg2 ho2 => ?_) | refine TL.append hF 5 rfl rfl rfl hoo (row_own (cs := [.int .i64 (-1)]) (e := 3) List.mem_cons_self).src rfl rfl (by simp [Value.oneCell']) (by omega) (by omega) rfl (fun a2 cap2 seg2 ho2 => ?_) | refine TL.append hF 5 rfl rfl rfl hoo (row_own (cs := [.int .i64 (-1)]) (e := 3) (upc _ List.mem_cons_self)).src rfl rfl (by simp [Value.oneCell']) (by omega) (by omega) rfl (fun a2 cap2 seg2 ho2 => ?_) | refine TL.append hF 5 rfl rfl rfl hoo (row_own (cs := [.int .i64 (-1)]) (e := 3) (upc _ (upc _ List.mem_cons_self))).src rfl rfl (by simp [Value.oneCell']) (by omega) (by omega) rfl (fun a2 cap2 seg2 ho2 => ?_)
              refine TL.finK ⟨⟨_, rfl, _, _, [(32, _, some 9)], rfl, rfl, ⟨⟨rfl, rfl, rfl⟩, trivial⟩, fun ext => TL.load hF rfl (by first | exact At.own' (i := 0) rfl rfl | exact At.own' (i := 1) rfl rfl | exact At.own' (i := 2) rfl rfl | exact At.own' (i := 3) rfl rfl | exact At.own' (i := 4) rfl rfl | exact At.own' (i := 5) rfl rfl | exact At.own' (i := 6) rfl rfl | exact At.own' (i := 7) rfl rfl | exact At.own' (i := 8) rfl rfl | exact At.own' (i := 9) rfl rfl | exact At.own' (i := 10) rfl rfl | exact At.own' (i := 11) rfl rfl | exact At.own' (i := 12) rfl rfl) rfl TL.fin⟩, trivial⟩ ?_
              refine DH.heavy 12 [(33, _, some 10), (34, _, some 11)] (by kernel_rfl) (by kernel_rfl) (by kernel_rfl) (by kernel_rfl) rfl rfl rfl rfl ⟨⟨rfl, rfl, rfl⟩, ⟨rfl, rfl, rfl⟩, trivial⟩ (by kernel_rfl) (fun ext => ?_)
              first | refine TL.append hF 6 rfl rfl rfl hol (row_own (cs := [.int .i64 (-1)]) (e := 3) List.mem_cons_self).src rfl rfl (by simp [Value.oneCell']) (by omega) (by omega) rfl (fun a3 cap3 seg3 ho3 => ?_) | refine TL.append hF 6 rfl rfl rfl hol (row_own (cs := [.int .i64 (-1)]) (e := 3) (upc _ List.mem_cons_self)).src rfl rfl (by simp [Value.oneCell']) (by omega) (by omega) rfl (fun a3 cap3 seg3 ho3 => ?_) | refine TL.append hF 6 rfl rfl rfl hol (row_own (cs := [.int .i64 (-1)]) (e := 3) (upc _ (upc _ List.mem_cons_self))).src rfl rfl (by simp [Value.oneCell']) (by omega) (by omega) rfl (fun a3 cap3 seg3 ho3 => ?_)
              refine TL.finD ?_
              refine DH.done [(35, _), (31, _), (34, _), (36, _), (27, _), (26, _), (30, _), (33, _), (32, _), (29, _), (28, _), (25, _), (24, _), (23, _)] [_, _, _, _, _] (by kernel_rfl) (by kernel_rfl) (by kernel_rfl) (by kernel_rfl) rfl rfl ?_
              refine TL.storeI hF 3 rfl rfl rfl rfl (by simp) ?_
              refine TL.fieldAddr hF rfl rfl ?_
              refine TL.storeI hF 3 rfl rfl rfl rfl (by simp) ?_
              refine TL.fieldAddr hF rfl rfl ?_
              refine TL.storeI hF 3 rfl rfl rfl rfl (by simp) ?_
              refine TL.nil ?_
              refine TQ.block_n ?_
              refine TQ.then_n ?_
              refine T.region ?_
              refine TL.move hF rfl rfl ?_
              refine TL.add hF rfl rfl (by omega) (by omega) rfl ?_
              refine TL.assign hF rfl rfl ?_
              refine TL.nil ?_
              refine TQ.pop (TQ.pop (TQ.pop ?_))
              rw [intC_snoc] at ho1
              rw [intC_snoc (f := fun _ => -1)] at ho2 ho3
              exact TQ.round (k + 1, a1, cap1, seg1, a2, cap2, seg2, a3, cap3, seg3) ⟨by simp only; omega, ho1, ho2, ho3⟩ (by simp only; omega) ⟨rfl, rfl, rfl, rfl, trivial⟩ rfl
          · refine TL.buildSlice hF rfl (cs := #[.int .i64 (-1)]) (e := 3) (fun w => by kernel_rfl) rfl (fun b34 => ?_)
            refine TL.finK ⟨⟨_, rfl, _, _, [(23, _, some 0)], rfl, rfl, ⟨⟨rfl, rfl, rfl⟩, trivial⟩, fun ext => TL.load hF rfl (by first | exact At.own' (i := 0) rfl rfl | exact At.own' (i := 1) rfl rfl | exact At.own' (i := 2) rfl rfl | exact At.own' (i := 3) rfl rfl | exact At.own' (i := 4) rfl rfl | exact At.own' (i := 5) rfl rfl | exact At.own' (i := 6) rfl rfl | exact At.own' (i := 7) rfl rfl | exact At.own' (i := 8) rfl rfl | exact At.own' (i := 9) rfl rfl | exact At.own' (i := 10) rfl rfl | exact At.own' (i := 11) rfl rfl | exact At.own' (i := 12) rfl rfl) rfl TL.fin⟩, ⟨_, rfl, _, _, [(28, _, some 5)], rfl, rfl, ⟨⟨rfl, rfl, rfl⟩, trivial⟩, fun ext => TL.load hF rfl (by first | exact At.own' (i := 0) rfl rfl | exact At.own' (i := 1) rfl rfl | exact At.own' (i := 2) rfl rfl | exact At.own' (i := 3) rfl rfl | exact At.own' (i := 4) rfl rfl | exact At.own' (i := 5) rfl rfl | exact At.own' (i := 6) rfl rfl | exact At.own' (i := 7) rfl rfl | exact At.own' (i := 8) rfl rfl | exact At.own' (i := 9) rfl rfl | exact At.own' (i := 10) rfl rfl | exact At.own' (i := 11) rfl rfl | exact At.own' (i := 12) rfl rfl) rfl TL.fin⟩, ⟨_, rfl, _, _, [(32, _, some 9)], rfl, rfl, ⟨⟨rfl, rfl, rfl⟩, trivial⟩, fun ext => TL.load hF rfl (by first | exact At.own' (i := 0) rfl rfl | exact At.own' (i := 1) rfl rfl | exact At.own' (i := 2) rfl rfl | exact At.own' (i := 3) rfl rfl | exact At.own' (i := 4) rfl rfl | exact At.own' (i := 5) rfl rfl | exact At.own' (i := 6) rfl rfl | exact At.own' (i := 7) rfl rfl | exact At.own' (i := 8) rfl rfl | exact At.own' (i := 9) rfl rfl | exact At.own' (i := 10) rfl rfl | exact At.own' (i := 11) rfl rfl | exact At.own' (i := 12) rfl rfl) rfl TL.fin⟩, trivial⟩ ?_
            refine DH.k1 (by kernel_rfl) (by kernel_rfl) (by kernel_rfl) (by kernel_rfl) (HBK.mk (h := 4) [6, 10] [(24, _, some 1), (26, _, some 3)] rfl rfl rfl ⟨⟨rfl, rfl, rfl⟩, ⟨rfl, rfl, rfl⟩, trivial⟩ (by kernel_rfl) (fun ext => ?_))
            first | refine TL.append hF 2 rfl rfl rfl how (row_own (cs := [.int .i64 ((startS l).W k)]) (e := 3) List.mem_cons_self).src rfl rfl (by simp [Value.oneCell']) (by omega) (by omega) rfl (fun a1 cap1 seg1 ho1 => ?_) | refine TL.append hF 2 rfl rfl rfl how (row_own (cs := [.int .i64 ((startS l).W k)]) (e := 3) (upc _ List.mem_cons_self)).src rfl rfl (by simp [Value.oneCell']) (by omega) (by omega) rfl (fun a1 cap1 seg1 ho1 => ?_) | refine TL.append hF 2 rfl rfl rfl how (row_own (cs := [.int .i64 ((startS l).W k)]) (e := 3) (upc _ (upc _ List.mem_cons_self))).src rfl rfl (by simp [Value.oneCell']) (by omega) (by omega) rfl (fun a1 cap1 seg1 ho1 => ?_) | refine TL.append hF 3 rfl rfl rfl how (row_own (cs := [.int .i64 ((startS l).W k)]) (e := 3) List.mem_cons_self).src rfl rfl (by simp [Value.oneCell']) (by omega) (by omega) rfl (fun a1 cap1 seg1 ho1 => ?_) | refine TL.append hF 3 rfl rfl rfl how (row_own (cs := [.int .i64 ((startS l).W k)]) (e := 3) (upc _ List.mem_cons_self)).src rfl rfl (by simp [Value.oneCell']) (by omega) (by omega) rfl (fun a1 cap1 seg1 ho1 => ?_) | refine TL.append hF 3 rfl rfl rfl how (row_own (cs := [.int .i64 ((startS l).W k)]) (e := 3) (upc _ (upc _ List.mem_cons_self))).src rfl rfl (by simp [Value.oneCell']) (by omega) (by omega) rfl (fun a1 cap1 seg1 ho1 => ?_) | refine TL.append hF 4 rfl rfl rfl how (row_own (cs := [.int .i64 ((startS l).W k)]) (e := 3) List.mem_cons_self).src rfl rfl (by simp [Value.oneCell']) (by omega) (by omega) rfl (fun a1 cap1 seg1 ho1 => ?_) | refine TL.append hF 4 rfl rfl rfl how (row_own (cs := [.int .i64 ((startS l).W k)]) (e := 3) (upc _ List.mem_cons_self)).src rfl rfl (by simp [Value.oneCell']) (by omega) (by omega) rfl (fun a1 cap1 seg1 ho1 => ?_) | refine TL.append hF 4 rfl rfl rfl how (row_own (cs := [.int .i64 ((startS l).W k)]) (e := 3) (upc _ (upc _ List.mem_cons_self))).src rfl rfl (by simp [Value.oneCell']) (by omega) (by omega) rfl (fun a1 cap1 seg1 ho1 => ?_)
            refine TL.finK ⟨⟨_, rfl, _, _, [(28, _, some 5)], rfl, rfl, ⟨⟨rfl, rfl, rfl⟩, trivial⟩, fun ext => TL.load hF rfl (by first | exact At.own' (i := 0) rfl rfl | exact At.own' (i := 1) rfl rfl | exact At.own' (i := 2) rfl rfl | exact At.own' (i := 3) rfl rfl | exact At.own' (i := 4) rfl rfl | exact At.own' (i := 5) rfl rfl | exact At.own' (i := 6) rfl rfl | exact At.own' (i := 7) rfl rfl | exact At.own' (i := 8) rfl rfl | exact At.own' (i := 9) rfl rfl | exact At.own' (i := 10) rfl rfl | exact At.own' (i := 11) rfl rfl | exact At.own' (i := 12) rfl rfl) rfl TL.fin⟩, ⟨_, rfl, _, _, [(32, _, some 9)], rfl, rfl, ⟨⟨rfl, rfl, rfl⟩, trivial⟩, fun ext => TL.load hF rfl (by first | exact At.own' (i := 0) rfl rfl | exact At.own' (i := 1) rfl rfl | exact At.own' (i := 2) rfl rfl | exact At.own' (i := 3) rfl rfl | exact At.own' (i := 4) rfl rfl | exact At.own' (i := 5) rfl rfl | exact At.own' (i := 6) rfl rfl | exact At.own' (i := 7) rfl rfl | exact At.own' (i := 8) rfl rfl | exact At.own' (i := 9) rfl rfl | exact At.own' (i := 10) rfl rfl | exact At.own' (i := 11) rfl rfl | exact At.own' (i := 12) rfl rfl) rfl TL.fin⟩, trivial⟩ ?_
            refine DH.pure (i := 13) [(3, _, none)] rfl rfl rfl rfl ⟨⟨rfl, by kernel_rfl⟩, trivial⟩ (fun _ ext => TL.fieldAddr hF rfl rfl TL.fin) ?_
            refine DH.k1 (by kernel_rfl) (by kernel_rfl) (by kernel_rfl) (by kernel_rfl) (HBK.mk (h := 8) [10] [(29, _, some 6), (30, _, some 7)] rfl rfl rfl ⟨⟨rfl, rfl, rfl⟩, ⟨rfl, rfl, rfl⟩, trivial⟩ (by kernel_rfl) (fun ext => ?_))
            first | refine TL.append hF 4 rfl rfl rfl hoo (row_own (cs := [.int .i64 (-1)]) (e := 3) List.mem_cons_self).src rfl rfl (by simp [Value.oneCell']) (by omega) (by omega) rfl (fun a2 cap2 seg2 ho2 => ?_) | refine TL.append hF 4 rfl rfl rfl hoo (row_own (cs := [.int .i64 (-1)]) (e := 3) (upc _ List.mem_cons_self)).src rfl rfl (by simp [Value.oneCell']) (by omega) (by omega) rfl (fun a2 cap2 seg2 ho2 => ?_) | refine TL.append hF 4 rfl rfl rfl hoo (row_own (cs := [.int .i64 (-1)]) (e := 3) (upc _ (upc _ List.mem_cons_self))).src rfl rfl (by simp [Value.oneCell']) (by omega) (by omega) rfl (fun a2 cap2 seg2 ho2 => ?_) | refine TL.append hF 5 rfl rfl rfl hoo (row_own (cs := [.int .i64 (-1)]) (e := 3) List.mem_cons_self).src rfl rfl (by simp [Value.oneCell']) (by omega) (by omega) rfl (fun a2 cap2 seg2 ho2 => ?_) | refine TL.append hF 5 rfl rfl rfl hoo (row_own (cs := [.int .i64 (-1)]) (e := 3) (upc _ List.mem_cons_self)).src rfl rfl (by simp [Value.oneCell']) (by omega) (by omega) rfl (fun a2 cap2 seg2 ho2 => ?_) | refine TL.append hF 5 rfl rfl rfl hoo (row_own (cs := [.int .i64 (-1)]) (e := 3) (upc _ (upc _ List.mem_cons_self))).src rfl rfl (by simp [Value.oneCell']) (by omega) (by omega) rfl (fun a2 cap2 seg2 ho2 => ?_)
            refine TL.finK ⟨⟨_, rfl, _, _, [(32, _, some 9)], rfl, rfl, ⟨⟨rfl, rfl, rfl⟩, trivial⟩, fun ext => TL.load hF rfl (by first | exact At.own' (i := 0) rfl rfl | exact At.own' (i := 1) rfl rfl | exact At.own' (i := 2) rfl rfl | exact At.own' (i := 3) rfl rfl | exact At.own' (i := 4) rfl rfl | exact At.own' (i := 5) rfl rfl | exact At.own' (i := 6) rfl rfl | exact At.own' (i := 7) rfl rfl | exact At.own' (i := 8) rfl rfl | exact At.own' (i := 9) rfl rfl | exact At.own' (i := 10) rfl rfl | exact At.own' (i := 11) rfl rfl | exact At.own' (i := 12) rfl rfl) rfl TL.fin⟩, trivial⟩ ?_
            refine DH.heavy 12 [(33, _, some 10), (34, _, some 11)] (by kernel_rfl) (by kernel_rfl) (by kernel_rfl) (by kernel_rfl) rfl rfl rfl rfl ⟨⟨rfl, rfl, rfl⟩, ⟨rfl, rfl, rfl⟩, trivial⟩ (by kernel_rfl) (fun ext => ?_)
            first | refine TL.append hF 6 rfl rfl rfl hol (row_own (cs := [.int .i64 (-1)]) (e := 3) List.mem_cons_self).src rfl rfl (by simp [Value.oneCell']) (by omega) (by omega) rfl (fun a3 cap3 seg3 ho3 => ?_) | refine TL.append hF 6 rfl rfl rfl hol (row_own (cs := [.int .i64 (-1)]) (e := 3) (upc _ List.mem_cons_self)).src rfl rfl (by simp [Value.oneCell']) (by omega) (by omega) rfl (fun a3 cap3 seg3 ho3 => ?_) | refine TL.append hF 6 rfl rfl rfl hol (row_own (cs := [.int .i64 (-1)]) (e := 3) (upc _ (upc _ List.mem_cons_self))).src rfl rfl (by simp [Value.oneCell']) (by omega) (by omega) rfl (fun a3 cap3 seg3 ho3 => ?_)
            refine TL.finD ?_
            refine DH.done [(35, _), (31, _), (36, _), (27, _), (34, _), (26, _), (30, _), (33, _), (32, _), (29, _), (28, _), (25, _), (24, _), (23, _)] [_, _, _, _, _] (by kernel_rfl) (by kernel_rfl) (by kernel_rfl) (by kernel_rfl) rfl rfl ?_
            refine TL.storeI hF 3 rfl rfl rfl rfl (by simp) ?_
            refine TL.fieldAddr hF rfl rfl ?_
            refine TL.storeI hF 3 rfl rfl rfl rfl (by simp) ?_
            refine TL.fieldAddr hF rfl rfl ?_
            refine TL.storeI hF 3 rfl rfl rfl rfl (by simp) ?_
            refine TL.nil ?_
            refine TQ.block_n ?_
            refine TQ.then_n ?_
            refine T.region ?_
            refine TL.move hF rfl rfl ?_
            refine TL.add hF rfl rfl (by omega) (by omega) rfl ?_
            refine TL.assign hF rfl rfl ?_
            refine TL.nil ?_
            refine TQ.pop (TQ.pop (TQ.pop ?_))
            rw [intC_snoc] at ho1
            rw [intC_snoc (f := fun _ => -1)] at ho2 ho3
            exact TQ.round (k + 1, a1, cap1, seg1, a2, cap2, seg2, a3, cap3, seg3) ⟨by simp only; omega, ho1, ho2, ho3⟩ (by simp only; omega) ⟨rfl, rfl, rfl, rfl, trivial⟩ rfl
        · refine TL.buildSlice hF rfl (cs := #[.int .i64 (-1)]) (e := 3) (fun w => by kernel_rfl) rfl (fun b34 => ?_)
          refine TL.finK ⟨⟨_, rfl, _, _, [(23, _, some 0)], rfl, rfl, ⟨⟨rfl, rfl, rfl⟩, trivial⟩, fun ext => TL.load hF rfl (by first | exact At.own' (i := 0) rfl rfl | exact At.own' (i := 1) rfl rfl | exact At.own' (i := 2) rfl rfl | exact At.own' (i := 3) rfl rfl | exact At.own' (i := 4) rfl rfl | exact At.own' (i := 5) rfl rfl | exact At.own' (i := 6) rfl rfl | exact At.own' (i := 7) rfl rfl | exact At.own' (i := 8) rfl rfl | exact At.own' (i := 9) rfl rfl | exact At.own' (i := 10) rfl rfl | exact At.own' (i := 11) rfl rfl | exact At.own' (i := 12) rfl rfl) rfl TL.fin⟩, ⟨_, rfl, _, _, [(28, _, some 5)], rfl, rfl, ⟨⟨rfl, rfl, rfl⟩, trivial⟩, fun ext => TL.load hF rfl (by first | exact At.own' (i := 0) rfl rfl | exact At.own' (i := 1) rfl rfl | exact At.own' (i := 2) rfl rfl | exact At.own' (i := 3) rfl rfl | exact At.own' (i := 4) rfl rfl | exact At.own' (i := 5) rfl rfl | exact At.own' (i := 6) rfl rfl | exact At.own' (i := 7) rfl rfl | exact At.own' (i := 8) rfl rfl | exact At.own' (i := 9) rfl rfl | exact At.own' (i := 10) rfl rfl | exact At.own' (i := 11) rfl rfl | exact At.own' (i := 12) rfl rfl) rfl TL.fin⟩, ⟨_, rfl, _, _, [(32, _, some 9)], rfl, rfl, ⟨⟨rfl, rfl, rfl⟩, trivial⟩, fun ext => TL.load hF rfl (by first | exact At.own' (i := 0) rfl rfl | exact At.own' (i := 1) rfl rfl | exact At.own' (i := 2) rfl rfl | exact At.own' (i := 3) rfl rfl | exact At.own' (i := 4) rfl rfl | exact At.own' (i := 5) rfl rfl | exact At.own' (i := 6) rfl rfl | exact At.own' (i := 7) rfl rfl | exact At.own' (i := 8) rfl rfl | exact At.own' (i := 9) rfl rfl | exact At.own' (i := 10) rfl rfl | exact At.own' (i := 11) rfl rfl | exact At.own' (i := 12) rfl rfl) rfl TL.fin⟩, trivial⟩ ?_
          refine DH.k1 (by kernel_rfl) (by kernel_rfl) (by kernel_rfl) (by kernel_rfl) (HBK.mk (h := 3) [1, 6, 10] [(25, _, some 2)] rfl rfl rfl ⟨⟨rfl, rfl, rfl⟩, trivial⟩ (by kernel_rfl) (fun ext => ?_))
          refine TL.buildSlice hF rfl (cs := #[.int .i64 ((startS l).W k)]) (e := 3) (fun w => by kernel_rfl) rfl (fun b26 => ?_)
          refine TL.finK ⟨⟨_, rfl, _, _, [(23, _, some 0)], rfl, rfl, ⟨⟨rfl, rfl, rfl⟩, trivial⟩, fun ext => TL.load hF rfl (by first | exact At.own' (i := 0) rfl rfl | exact At.own' (i := 1) rfl rfl | exact At.own' (i := 2) rfl rfl | exact At.own' (i := 3) rfl rfl | exact At.own' (i := 4) rfl rfl | exact At.own' (i := 5) rfl rfl | exact At.own' (i := 6) rfl rfl | exact At.own' (i := 7) rfl rfl | exact At.own' (i := 8) rfl rfl | exact At.own' (i := 9) rfl rfl | exact At.own' (i := 10) rfl rfl | exact At.own' (i := 11) rfl rfl | exact At.own' (i := 12) rfl rfl) rfl TL.fin⟩, ⟨_, rfl, _, _, [(28, _, some 5)], rfl, rfl, ⟨⟨rfl, rfl, rfl⟩, trivial⟩, fun ext => TL.load hF rfl (by first | exact At.own' (i := 0) rfl rfl | exact At.own' (i := 1) rfl rfl | exact At.own' (i := 2) rfl rfl | exact At.own' (i := 3) rfl rfl | exact At.own' (i := 4) rfl rfl | exact At.own' (i := 5) rfl rfl | exact At.own' (i := 6) rfl rfl | exact At.own' (i := 7) rfl rfl | exact At.own' (i := 8) rfl rfl | exact At.own' (i := 9) rfl rfl | exact At.own' (i := 10) rfl rfl | exact At.own' (i := 11) rfl rfl | exact At.own' (i := 12) rfl rfl) rfl TL.fin⟩, ⟨_, rfl, _, _, [(32, _, some 9)], rfl, rfl, ⟨⟨rfl, rfl, rfl⟩, trivial⟩, fun ext => TL.load hF rfl (by first | exact At.own' (i := 0) rfl rfl | exact At.own' (i := 1) rfl rfl | exact At.own' (i := 2) rfl rfl | exact At.own' (i := 3) rfl rfl | exact At.own' (i := 4) rfl rfl | exact At.own' (i := 5) rfl rfl | exact At.own' (i := 6) rfl rfl | exact At.own' (i := 7) rfl rfl | exact At.own' (i := 8) rfl rfl | exact At.own' (i := 9) rfl rfl | exact At.own' (i := 10) rfl rfl | exact At.own' (i := 11) rfl rfl | exact At.own' (i := 12) rfl rfl) rfl TL.fin⟩, trivial⟩ ?_
          refine DH.k1 (by kernel_rfl) (by kernel_rfl) (by kernel_rfl) (by kernel_rfl) (HBK.mk (h := 4) [6, 10] [(24, _, some 1), (26, _, some 3)] rfl rfl rfl ⟨⟨rfl, rfl, rfl⟩, ⟨rfl, rfl, rfl⟩, trivial⟩ (by kernel_rfl) (fun ext => ?_))
          first | refine TL.append hF 2 rfl rfl rfl how (row_own (cs := [.int .i64 ((startS l).W k)]) (e := 3) List.mem_cons_self).src rfl rfl (by simp [Value.oneCell']) (by omega) (by omega) rfl (fun a1 cap1 seg1 ho1 => ?_) | refine TL.append hF 2 rfl rfl rfl how (row_own (cs := [.int .i64 ((startS l).W k)]) (e := 3) (upc _ List.mem_cons_self)).src rfl rfl (by simp [Value.oneCell']) (by omega) (by omega) rfl (fun a1 cap1 seg1 ho1 => ?_) | refine TL.append hF 2 rfl rfl rfl how (row_own (cs := [.int .i64 ((startS l).W k)]) (e := 3) (upc _ (upc _ List.mem_cons_self))).src rfl rfl (by simp [Value.oneCell']) (by omega) (by omega) rfl (fun a1 cap1 seg1 ho1 => ?_) | refine TL.append hF 3 rfl rfl rfl how (row_own (cs := [.int .i64 ((startS l).W k)]) (e := 3) List.mem_cons_self).src rfl rfl (by simp [Value.oneCell']) (by omega) (by omega) rfl (fun a1 cap1 seg1 ho1 => ?_) | refine TL.append hF 3 rfl rfl rfl how (row_own (cs := [.int .i64 ((startS l).W k)]) (e := 3) (upc _ List.mem_cons_self)).src rfl rfl (by simp [Value.oneCell']) (by omega) (by omega) rfl (fun a1 cap1 seg1 ho1 => ?_) | refine TL.append hF 3 rfl rfl rfl how (row_own (cs := [.int .i64 ((startS l).W k)]) (e := 3) (upc _ (upc _ List.mem_cons_self))).src rfl rfl (by simp [Value.oneCell']) (by omega) (by omega) rfl (fun a1 cap1 seg1 ho1 => ?_) | refine TL.append hF 4 rfl rfl rfl how (row_own (cs := [.int .i64 ((startS l).W k)]) (e := 3) List.mem_cons_self).src rfl rfl (by simp [Value.oneCell']) (by omega) (by omega) rfl (fun a1 cap1 seg1 ho1 => ?_) | refine TL.append hF 4 rfl rfl rfl how (row_own (cs := [.int .i64 ((startS l).W k)]) (e := 3) (upc _ List.mem_cons_self)).src rfl rfl (by simp [Value.oneCell']) (by omega) (by omega) rfl (fun a1 cap1 seg1 ho1 => ?_) | refine TL.append hF 4 rfl rfl rfl how (row_own (cs := [.int .i64 ((startS l).W k)]) (e := 3) (upc _ (upc _ List.mem_cons_self))).src rfl rfl (by simp [Value.oneCell']) (by omega) (by omega) rfl (fun a1 cap1 seg1 ho1 => ?_)
          refine TL.finK ⟨⟨_, rfl, _, _, [(28, _, some 5)], rfl, rfl, ⟨⟨rfl, rfl, rfl⟩, trivial⟩, fun ext => TL.load hF rfl (by first | exact At.own' (i := 0) rfl rfl | exact At.own' (i := 1) rfl rfl | exact At.own' (i := 2) rfl rfl | exact At.own' (i := 3) rfl rfl | exact At.own' (i := 4) rfl rfl | exact At.own' (i := 5) rfl rfl | exact At.own' (i := 6) rfl rfl | exact At.own' (i := 7) rfl rfl | exact At.own' (i := 8) rfl rfl | exact At.own' (i := 9) rfl rfl | exact At.own' (i := 10) rfl rfl | exact At.own' (i := 11) rfl rfl | exact At.own' (i := 12) rfl rfl) rfl TL.fin⟩, ⟨_, rfl, _, _, [(32, _, some 9)], rfl, rfl, ⟨⟨rfl, rfl, rfl⟩, trivial⟩, fun ext => TL.load hF rfl (by first | exact At.own' (i := 0) rfl rfl | exact At.own' (i := 1) rfl rfl | exact At.own' (i := 2) rfl rfl | exact At.own' (i := 3) rfl rfl | exact At.own' (i := 4) rfl rfl | exact At.own' (i := 5) rfl rfl | exact At.own' (i := 6) rfl rfl | exact At.own' (i := 7) rfl rfl | exact At.own' (i := 8) rfl rfl | exact At.own' (i := 9) rfl rfl | exact At.own' (i := 10) rfl rfl | exact At.own' (i := 11) rfl rfl | exact At.own' (i := 12) rfl rfl) rfl TL.fin⟩, trivial⟩ ?_
          refine DH.pure (i := 13) [(3, _, none)] rfl rfl rfl rfl ⟨⟨rfl, by kernel_rfl⟩, trivial⟩ (fun _ ext => TL.fieldAddr hF rfl rfl TL.fin) ?_
          refine DH.k1 (by kernel_rfl) (by kernel_rfl) (by kernel_rfl) (by kernel_rfl) (HBK.mk (h := 8) [10] [(29, _, some 6), (30, _, some 7)] rfl rfl rfl ⟨⟨rfl, rfl, rfl⟩, ⟨rfl, rfl, rfl⟩, trivial⟩ (by kernel_rfl) (fun ext => ?_))
          first | refine TL.append hF 4 rfl rfl rfl hoo (row_own (cs := [.int .i64 (-1)]) (e := 3) List.mem_cons_self).src rfl rfl (by simp [Value.oneCell']) (by omega) (by omega) rfl (fun a2 cap2 seg2 ho2 => ?_) | refine TL.append hF 4 rfl rfl rfl hoo (row_own (cs := [.int .i64 (-1)]) (e := 3) (upc _ List.mem_cons_self)).src rfl rfl (by simp [Value.oneCell']) (by omega) (by omega) rfl (fun a2 cap2 seg2 ho2 => ?_) | refine TL.append hF 4 rfl rfl rfl hoo (row_own (cs := [.int .i64 (-1)]) (e := 3) (upc _ (upc _ List.mem_cons_self))).src rfl rfl (by simp [Value.oneCell']) (by omega) (by omega) rfl (fun a2 cap2 seg2 ho2 => ?_) | refine TL.append hF 5 rfl rfl rfl hoo (row_own (cs := [.int .i64 (-1)]) (e := 3) List.mem_cons_self).src rfl rfl (by simp [Value.oneCell']) (by omega) (by omega) rfl (fun a2 cap2 seg2 ho2 => ?_) | refine TL.append hF 5 rfl rfl rfl hoo (row_own (cs := [.int .i64 (-1)]) (e := 3) (upc _ List.mem_cons_self)).src rfl rfl (by simp [Value.oneCell']) (by omega) (by omega) rfl (fun a2 cap2 seg2 ho2 => ?_) | refine TL.append hF 5 rfl rfl rfl hoo (row_own (cs := [.int .i64 (-1)]) (e := 3) (upc _ (upc _ List.mem_cons_self))).src rfl rfl (by simp [Value.oneCell']) (by omega) (by omega) rfl (fun a2 cap2 seg2 ho2 => ?_)
          refine TL.finK ⟨⟨_, rfl, _, _, [(32, _, some 9)], rfl, rfl, ⟨⟨rfl, rfl, rfl⟩, trivial⟩, fun ext => TL.load hF rfl (by first | exact At.own' (i := 0) rfl rfl | exact At.own' (i := 1) rfl rfl | exact At.own' (i := 2) rfl rfl | exact At.own' (i := 3) rfl rfl | exact At.own' (i := 4) rfl rfl | exact At.own' (i := 5) rfl rfl | exact At.own' (i := 6) rfl rfl | exact At.own' (i := 7) rfl rfl | exact At.own' (i := 8) rfl rfl | exact At.own' (i := 9) rfl rfl | exact At.own' (i := 10) rfl rfl | exact At.own' (i := 11) rfl rfl | exact At.own' (i := 12) rfl rfl) rfl TL.fin⟩, trivial⟩ ?_
          refine DH.heavy 12 [(33, _, some 10), (34, _, some 11)] (by kernel_rfl) (by kernel_rfl) (by kernel_rfl) (by kernel_rfl) rfl rfl rfl rfl ⟨⟨rfl, rfl, rfl⟩, ⟨rfl, rfl, rfl⟩, trivial⟩ (by kernel_rfl) (fun ext => ?_)
          first | refine TL.append hF 6 rfl rfl rfl hol (row_own (cs := [.int .i64 (-1)]) (e := 3) List.mem_cons_self).src rfl rfl (by simp [Value.oneCell']) (by omega) (by omega) rfl (fun a3 cap3 seg3 ho3 => ?_) | refine TL.append hF 6 rfl rfl rfl hol (row_own (cs := [.int .i64 (-1)]) (e := 3) (upc _ List.mem_cons_self)).src rfl rfl (by simp [Value.oneCell']) (by omega) (by omega) rfl (fun a3 cap3 seg3 ho3 => ?_) | refine TL.append hF 6 rfl rfl rfl hol (row_own (cs := [.int .i64 (-1)]) (e := 3) (upc _ (upc _ List.mem_cons_self))).src rfl rfl (by simp [Value.oneCell']) (by omega) (by omega) rfl (fun a3 cap3 seg3 ho3 => ?_)
          refine TL.finD ?_
          refine DH.done [(35, _), (31, _), (36, _), (27, _), (26, _), (34, _), (30, _), (33, _), (32, _), (29, _), (28, _), (25, _), (24, _), (23, _)] [_, _, _, _, _] (by kernel_rfl) (by kernel_rfl) (by kernel_rfl) (by kernel_rfl) rfl rfl ?_
          refine TL.storeI hF 3 rfl rfl rfl rfl (by simp) ?_
          refine TL.fieldAddr hF rfl rfl ?_
          refine TL.storeI hF 3 rfl rfl rfl rfl (by simp) ?_
          refine TL.fieldAddr hF rfl rfl ?_
          refine TL.storeI hF 3 rfl rfl rfl rfl (by simp) ?_
          refine TL.nil ?_
          refine TQ.block_n ?_
          refine TQ.then_n ?_
          refine T.region ?_
          refine TL.move hF rfl rfl ?_
          refine TL.add hF rfl rfl (by omega) (by omega) rfl ?_
          refine TL.assign hF rfl rfl ?_
          refine TL.nil ?_
          refine TQ.pop (TQ.pop (TQ.pop ?_))
          rw [intC_snoc] at ho1
          rw [intC_snoc (f := fun _ => -1)] at ho2 ho3
          exact TQ.round (k + 1, a1, cap1, seg1, a2, cap2, seg2, a3, cap3, seg3) ⟨by simp only; omega, ho1, ho2, ho3⟩ (by simp only; omega) ⟨rfl, rfl, rfl, rfl, trivial⟩ rfl
      · refine TL.buildSlice hF rfl (cs := #[.int .i64 (-1)]) (e := 3) (fun w => by kernel_rfl) rfl (fun b34 => ?_)
        refine TL.finK ⟨⟨_, rfl, _, _, [(23, _, some 0)], rfl, rfl, ⟨⟨rfl, rfl, rfl⟩, trivial⟩, fun ext => TL.load hF rfl (by first | exact At.own' (i := 0) rfl rfl | exact At.own' (i := 1) rfl rfl | exact At.own' (i := 2) rfl rfl | exact At.own' (i := 3) rfl rfl | exact At.own' (i := 4) rfl rfl | exact At.own' (i := 5) rfl rfl | exact At.own' (i := 6) rfl rfl | exact At.own' (i := 7) rfl rfl | exact At.own' (i := 8) rfl rfl | exact At.own' (i := 9) rfl rfl | exact At.own' (i := 10) rfl rfl | exact At.own' (i := 11) rfl rfl | exact At.own' (i := 12) rfl rfl) rfl TL.fin⟩, ⟨_, rfl, _, _, [(28, _, some 5)], rfl, rfl, ⟨⟨rfl, rfl, rfl⟩, trivial⟩, fun ext => TL.load hF rfl (by first | exact At.own' (i := 0) rfl rfl | exact At.own' (i := 1) rfl rfl | exact At.own' (i := 2) rfl rfl | exact At.own' (i := 3) rfl rfl | exact At.own' (i := 4) rfl rfl | exact At.own' (i := 5) rfl rfl | exact At.own' (i := 6) rfl rfl | exact At.own' (i := 7) rfl rfl | exact At.own' (i := 8) rfl rfl | exact At.own' (i := 9) rfl rfl | exact At.own' (i := 10) rfl rfl | exact At.own' (i := 11) rfl rfl | exact At.own' (i := 12) rfl rfl) rfl TL.fin⟩, ⟨_, rfl, _, _, [(32, _, some 9)], rfl, rfl, ⟨⟨rfl, rfl, rfl⟩, trivial⟩, fun ext => TL.load hF rfl (by first | exact At.own' (i := 0) rfl rfl | exact At.own' (i := 1) rfl rfl | exact At.own' (i := 2) rfl rfl | exact At.own' (i := 3) rfl rfl | exact At.own' (i := 4) rfl rfl | exact At.own' (i := 5) rfl rfl | exact At.own' (i := 6) rfl rfl | exact At.own' (i := 7) rfl rfl | exact At.own' (i := 8) rfl rfl | exact At.own' (i := 9) rfl rfl | exact At.own' (i := 10) rfl rfl | exact At.own' (i := 11) rfl rfl | exact At.own' (i := 12) rfl rfl) rfl TL.fin⟩, trivial⟩ ?_
        refine DH.k2 (by kernel_rfl) (by kernel_rfl) (by kernel_rfl) (by kernel_rfl) (HBK.mk (h := 3) [1, 6, 10] [(25, _, some 2)] rfl rfl rfl ⟨⟨rfl, rfl, rfl⟩, trivial⟩ (by kernel_rfl) (fun ext => ?_)) (HBK.mk (h := 7) [1, 6, 10] [] rfl rfl rfl trivial (by kernel_rfl) (fun ext => ?_))
        · refine TL.buildSlice hF rfl (cs := #[.int .i64 ((startS l).W k)]) (e := 3) (fun w => by kernel_rfl) rfl (fun b26 => ?_)
          refine TL.finK ⟨⟨_, rfl, _, _, [(23, _, some 0)], rfl, rfl, ⟨⟨rfl, rfl, rfl⟩, trivial⟩, fun ext => TL.load hF rfl (by first | exact At.own' (i := 0) rfl rfl | exact At.own' (i := 1) rfl rfl | exact At.own' (i := 2) rfl rfl | exact At.own' (i := 3) rfl rfl | exact At.own' (i := 4) rfl rfl | exact At.own' (i := 5) rfl rfl | exact At.own' (i := 6) rfl rfl | exact At.own' (i := 7) rfl rfl | exact At.own' (i := 8) rfl rfl | exact At.own' (i := 9) rfl rfl | exact At.own' (i := 10) rfl rfl | exact At.own' (i := 11) rfl rfl | exact At.own' (i := 12) rfl rfl) rfl TL.fin⟩, ⟨_, rfl, _, _, [(28, _, some 5)], rfl, rfl, ⟨⟨rfl, rfl, rfl⟩, trivial⟩, fun ext => TL.load hF rfl (by first | exact At.own' (i := 0) rfl rfl | exact At.own' (i := 1) rfl rfl | exact At.own' (i := 2) rfl rfl | exact At.own' (i := 3) rfl rfl | exact At.own' (i := 4) rfl rfl | exact At.own' (i := 5) rfl rfl | exact At.own' (i := 6) rfl rfl | exact At.own' (i := 7) rfl rfl | exact At.own' (i := 8) rfl rfl | exact At.own' (i := 9) rfl rfl | exact At.own' (i := 10) rfl rfl | exact At.own' (i := 11) rfl rfl | exact At.own' (i := 12) rfl rfl) rfl TL.fin⟩, ⟨_, rfl, _, _, [(32, _, some 9)], rfl, rfl, ⟨⟨rfl, rfl, rfl⟩, trivial⟩, fun ext => TL.load hF rfl (by first | exact At.own' (i := 0) rfl rfl | exact At.own' (i := 1) rfl rfl | exact At.own' (i := 2) rfl rfl | exact At.own' (i := 3) rfl rfl | exact At.own' (i := 4) rfl rfl | exact At.own' (i := 5) rfl rfl | exact At.own' (i := 6) rfl rfl | exact At.own' (i := 7) rfl rfl | exact At.own' (i := 8) rfl rfl | exact At.own' (i := 9) rfl rfl | exact At.own' (i := 10) rfl rfl | exact At.own' (i := 11) rfl rfl | exact At.own' (i := 12) rfl rfl) rfl TL.fin⟩, trivial⟩ ?_
          refine DH.k2 (by kernel_rfl) (by kernel_rfl) (by kernel_rfl) (by kernel_rfl) (HBK.mk (h := 4) [6, 10] [(24, _, some 1), (26, _, some 3)] rfl rfl rfl ⟨⟨rfl, rfl, rfl⟩, ⟨rfl, rfl, rfl⟩, trivial⟩ (by kernel_rfl) (fun ext => ?_)) (HBK.mk (h := 7) [1, 6, 10] [] rfl rfl rfl trivial (by kernel_rfl) (fun ext => ?_))
          · first | refine TL.append hF 2 rfl rfl rfl how (row_own (cs := [.int .i64 ((startS l).W k)]) (e := 3) List.mem_cons_self).src rfl rfl (by simp [Value.oneCell']) (by omega) (by omega) rfl (fun a1 cap1 seg1 ho1 => ?_) | refine TL.append hF 2 rfl rfl rfl how (row_own (cs := [.int .i64 ((startS l).W k)]) (e := 3) (upc _ List.mem_cons_self)).src rfl rfl (by simp [Value.oneCell']) (by omega) (by omega) rfl (fun a1 cap1 seg1 ho1 => ?_) | refine TL.append hF 2 rfl rfl rfl how (row_own (cs := [.int .i64 ((startS l).W k)]) (e := 3) (upc _ (upc _ List.mem_cons_self))).src rfl rfl (by simp [Value.oneCell']) (by omega) (by omega) rfl (fun a1 cap1 seg1 ho1 => ?_) | refine TL.append hF 3 rfl rfl rfl how (row_own (cs := [.int .i64 ((startS l).W k)]) (e := 3) List.mem_cons_self).src rfl rfl (by simp [Value.oneCell']) (by omega) (by omega) rfl (fun a1 cap1 seg1 ho1 => ?_) | refine TL.append hF 3 rfl rfl rfl how (row_own (cs := [.int .i64 ((startS l).W k)]) (e := 3) (upc _ List.mem_cons_self)).src rfl rfl (by simp [Value.oneCell']) (by omega) (by omega) rfl (fun a1 cap1 seg1 ho1 => ?_) | refine TL.append hF 3 rfl rfl rfl how (row_own (cs := [.int .i64 ((startS l).W k)]) (e := 3) (upc _ (upc _ List.mem_cons_self))).src rfl rfl (by simp [Value.oneCell']) (by omega) (by omega) rfl (fun a1 cap1 seg1 ho1 => ?_) | refine TL.append hF 4 rfl rfl rfl how (row_own (cs := [.int .i64 ((startS l).W k)]) (e := 3) List.mem_cons_self).src rfl rfl (by simp [Value.oneCell']) (by omega) (by omega) rfl (fun a1 cap1 seg1 ho1 => ?_) | refine TL.append hF 4 rfl rfl rfl how (row_own (cs := [.int .i64 ((startS l).W k)]) (e := 3) (upc _ List.mem_cons_self)).src rfl rfl (by simp [Value.oneCell']) (by omega) (by omega) rfl (fun a1 cap1 seg1 ho1 => ?_) | refine TL.append hF 4 rfl rfl rfl how (row_own (cs := [.int .i64 ((startS l).W k)]) (e := 3) (upc _ (upc _ List.mem_cons_self))).src rfl rfl (by simp [Value.oneCell']) (by omega) (by omega) rfl (fun a1 cap1 seg1 ho1 => ?_)
            refine TL.finK ⟨⟨_, rfl, _, _, [(28, _, some 5)], rfl, rfl, ⟨⟨rfl, rfl, rfl⟩, trivial⟩, fun ext => TL.load hF rfl (by first | exact At.own' (i := 0) rfl rfl | exact At.own' (i := 1) rfl rfl | exact At.own' (i := 2) rfl rfl | exact At.own' (i := 3) rfl rfl | exact At.own' (i := 4) rfl rfl | exact At.own' (i := 5) rfl rfl | exact At.own' (i := 6) rfl rfl | exact At.own' (i := 7) rfl rfl | exact At.own' (i := 8) rfl rfl | exact At.own' (i := 9) rfl rfl | exact At.own' (i := 10) rfl rfl | exact At.own' (i := 11) rfl rfl | exact At.own' (i := 12) rfl rfl) rfl TL.fin⟩, ⟨_, rfl, _, _, [(32, _, some 9)], rfl, rfl, ⟨⟨rfl, rfl, rfl⟩, trivial⟩, fun ext => TL.load hF rfl (by first | exact At.own' (i := 0) rfl rfl | exact At.own' (i := 1) rfl rfl | exact At.own' (i := 2) rfl rfl | exact At.own' (i := 3) rfl rfl | exact At.own' (i := 4) rfl rfl | exact At.own' (i := 5) rfl rfl | exact At.own' (i := 6) rfl rfl | exact At.own' (i := 7) rfl rfl | exact At.own' (i := 8) rfl rfl | exact At.own' (i := 9) rfl rfl | exact At.own' (i := 10) rfl rfl | exact At.own' (i := 11) rfl rfl | exact At.own' (i := 12) rfl rfl) rfl TL.fin⟩, trivial⟩ ?_
            refine DH.pure (i := 13) [(3, _, none)] rfl rfl rfl rfl ⟨⟨rfl, by kernel_rfl⟩, trivial⟩ (fun _ ext => TL.fieldAddr hF rfl rfl TL.fin) ?_
            refine DH.k1 (by kernel_rfl) (by kernel_rfl) (by kernel_rfl) (by kernel_rfl) (HBK.mk (h := 7) [6, 10] [] rfl rfl rfl trivial (by kernel_rfl) (fun ext => ?_))
            refine TL.buildSlice hF rfl (cs := #[.int .i64 (-1)]) (e := 3) (fun w => by kernel_rfl) rfl (fun b30 => ?_)
            refine TL.finK ⟨⟨_, rfl, _, _, [(28, _, some 5)], rfl, rfl, ⟨⟨rfl, rfl, rfl⟩, trivial⟩, fun ext => TL.load hF rfl (by first | exact At.own' (i := 0) rfl rfl | exact At.own' (i := 1) rfl rfl | exact At.own' (i := 2) rfl rfl | exact At.own' (i := 3) rfl rfl | exact At.own' (i := 4) rfl rfl | exact At.own' (i := 5) rfl rfl | exact At.own' (i := 6) rfl rfl | exact At.own' (i := 7) rfl rfl | exact At.own' (i := 8) rfl rfl | exact At.own' (i := 9) rfl rfl | exact At.own' (i := 10) rfl rfl | exact At.own' (i := 11) rfl rfl | exact At.own' (i := 12) rfl rfl) rfl TL.fin⟩, ⟨_, rfl, _, _, [(32, _, some 9)], rfl, rfl, ⟨⟨rfl, rfl, rfl⟩, trivial⟩, fun ext => TL.load hF rfl (by first | exact At.own' (i := 0) rfl rfl | exact At.own' (i := 1) rfl rfl | exact At.own' (i := 2) rfl rfl | exact At.own' (i := 3) rfl rfl | exact At.own' (i := 4) rfl rfl | exact At.own' (i := 5) rfl rfl | exact At.own' (i := 6) rfl rfl | exact At.own' (i := 7) rfl rfl | exact At.own' (i := 8) rfl rfl | exact At.own' (i := 9) rfl rfl | exact At.own' (i := 10) rfl rfl | exact At.own' (i := 11) rfl rfl | exact At.own' (i := 12) rfl rfl) rfl TL.fin⟩, trivial⟩ ?_
            refine DH.k1 (by kernel_rfl) (by kernel_rfl) (by kernel_rfl) (by kernel_rfl) (HBK.mk (h := 8) [10] [(29, _, some 6), (30, _, some 7)] rfl rfl rfl ⟨⟨rfl, rfl, rfl⟩, ⟨rfl, rfl, rfl⟩, trivial⟩ (by kernel_rfl) (fun ext => ?_))
            first | refine TL.append hF 4 rfl rfl rfl hoo (row_own (cs := [.int .i64 (-1)]) (e := 3) List.mem_cons_self).src rfl rfl (by simp [Value.oneCell']) (by omega) (by omega) rfl (fun a2 cap2 seg2 ho2 => ?_) | refine TL.append hF 4 rfl rfl rfl hoo (row_own (cs := [.int .i64 (-1)]) (e := 3) (upc _ List.mem_cons_self)).src rfl rfl (by simp [Value.oneCell']) (by omega) (by omega) rfl (fun a2 cap2 seg2 ho2 => ?_) | refine TL.append hF 4 rfl rfl rfl hoo (row_own (cs := [.int .i64 (-1)]) (e := 3) (upc _ (upc _ List.mem_cons_self))).src rfl rfl (by simp [Value.oneCell']) (by omega) (by omega) rfl (fun a2 cap2 seg2 ho2 => ?_) | refine TL.append hF 5 rfl rfl rfl hoo (row_own (cs := [.int .i64 (-1)]) (e := 3) List.mem_cons_self).src rfl rfl (by simp [Value.oneCell']) (by omega) (by omega) rfl (fun a2 cap2 seg2 ho2 => ?_) | refine TL.append hF 5 rfl rfl rfl hoo (row_own (cs := [.int .i64 (-1)]) (e := 3) (upc _ List.mem_cons_self)).src rfl rfl (by simp [Value.oneCell']) (by omega) (by omega) rfl (fun a2 cap2 seg2 ho2 => ?_) | refine TL.append hF 5 rfl rfl rfl hoo (row_own (cs := [.int .i64 (-1)]) (e := 3) (upc _ (upc _ List.mem_cons_self))).src rfl rfl (by simp [Value.oneCell']) (by omega) (by omega) rfl (fun a2 cap2 seg2 ho2 => ?_)
            refine TL.finK ⟨⟨_, rfl, _, _, [(32, _, some 9)], rfl, rfl, ⟨⟨rfl, rfl, rfl⟩, trivial⟩, fun ext => TL.load hF rfl (by first | exact At.own' (i := 0) rfl rfl | exact At.own' (i := 1) rfl rfl | exact At.own' (i := 2) rfl rfl | exact At.own' (i := 3) rfl rfl | exact At.own' (i := 4) rfl rfl | exact At.own' (i := 5) rfl rfl | exact At.own' (i := 6) rfl rfl | exact At.own' (i := 7) rfl rfl | exact At.own' (i := 8) rfl rfl | exact At.own' (i := 9) rfl rfl | exact At.own' (i := 10) rfl rfl | exact At.own' (i := 11) rfl rfl | exact At.own' (i := 12) rfl rfl) rfl TL.fin⟩, trivial⟩ ?_
            refine DH.heavy 12 [(33, _, some 10), (34, _, some 11)] (by kernel_rfl) (by kernel_rfl) (by kernel_rfl) (by kernel_rfl) rfl rfl rfl rfl ⟨⟨rfl, rfl, rfl⟩, ⟨rfl, rfl, rfl⟩, trivial⟩ (by kernel_rfl) (fun ext => ?_)
            first | refine TL.append hF 6 rfl rfl rfl hol (row_own (cs := [.int .i64 (-1)]) (e := 3) List.mem_cons_self).src rfl rfl (by simp [Value.oneCell']) (by omega) (by omega) rfl (fun a3 cap3 seg3 ho3 => ?_) | refine TL.append hF 6 rfl rfl rfl hol (row_own (cs := [.int .i64 (-1)]) (e := 3) (upc _ List.mem_cons_self)).src rfl rfl (by simp [Value.oneCell']) (by omega) (by omega) rfl (fun a3 cap3 seg3 ho3 => ?_) | refine TL.append hF 6 rfl rfl rfl hol (row_own (cs := [.int .i64 (-1)]) (e := 3) (upc _ (upc _ List.mem_cons_self))).src rfl rfl (by simp [Value.oneCell']) (by omega) (by omega) rfl (fun a3 cap3 seg3 ho3 => ?_)
            refine TL.finD ?_
            refine DH.done [(35, _), (31, _), (30, _), (36, _), (27, _), (26, _), (34, _), (33, _), (32, _), (29, _), (28, _), (25, _), (24, _), (23, _)] [_, _, _, _, _] (by kernel_rfl) (by kernel_rfl) (by kernel_rfl) (by kernel_rfl) rfl rfl ?_
            refine TL.storeI hF 3 rfl rfl rfl rfl (by simp) ?_
            refine TL.fieldAddr hF rfl rfl ?_
            refine TL.storeI hF 3 rfl rfl rfl rfl (by simp) ?_
            refine TL.fieldAddr hF rfl rfl ?_
            refine TL.storeI hF 3 rfl rfl rfl rfl (by simp) ?_
            refine TL.nil ?_
            refine TQ.block_n ?_
            refine TQ.then_n ?_
            refine T.region ?_
            refine TL.move hF rfl rfl ?_
            refine TL.add hF rfl rfl (by omega) (by omega) rfl ?_
            refine TL.assign hF rfl rfl ?_
            refine TL.nil ?_
            refine TQ.pop (TQ.pop (TQ.pop ?_))
            rw [intC_snoc] at ho1
            rw [intC_snoc (f := fun _ => -1)] at ho2 ho3
            exact TQ.round (k + 1, a1, cap1, seg1, a2, cap2, seg2, a3, cap3, seg3) ⟨by simp only; omega, ho1, ho2, ho3⟩ (by simp only; omega) ⟨rfl, rfl, rfl, rfl, trivial⟩ rfl
          · refine TL.buildSlice hF rfl (cs := #[.int .i64 (-1)]) (e := 3) (fun w => by kernel_rfl) rfl (fun b30 => ?_)
            refine TL.finK ⟨⟨_, rfl, _, _, [(23, _, some 0)], rfl, rfl, ⟨⟨rfl, rfl, rfl⟩, trivial⟩, fun ext => TL.load hF rfl (by first | exact At.own' (i := 0) rfl rfl | exact At.own' (i := 1) rfl rfl | exact At.own' (i := 2) rfl rfl | exact At.own' (i := 3) rfl rfl | exact At.own' (i := 4) rfl rfl | exact At.own' (i := 5) rfl rfl | exact At.own' (i := 6) rfl rfl | exact At.own' (i := 7) rfl rfl | exact At.own' (i := 8) rfl rfl | exact At.own' (i := 9) rfl rfl | exact At.own' (i := 10) rfl rfl | exact At.own' (i := 11) rfl rfl | exact At.own' (i := 12) rfl rfl) rfl TL.fin⟩, ⟨_, rfl, _, _, [(28, _, some 5)], rfl, rfl, ⟨⟨rfl, rfl, rfl⟩, trivial⟩, fun ext => TL.load hF rfl (by first | exact At.own' (i := 0) rfl rfl | exact At.own' (i := 1) rfl rfl | exact At.own' (i := 2) rfl rfl | exact At.own' (i := 3) rfl rfl | exact At.own' (i := 4) rfl rfl | exact At.own' (i := 5) rfl rfl | exact At.own' (i := 6) rfl rfl | exact At.own' (i := 7) rfl rfl | exact At.own' (i := 8) rfl rfl | exact At.own' (i := 9) rfl rfl | exact At.own' (i := 10) rfl rfl | exact At.own' (i := 11) rfl rfl | exact At.own' (i := 12) rfl rfl) rfl TL.fin⟩, ⟨_, rfl, _, _, [(32, _, some 9)], rfl, rfl, ⟨⟨rfl, rfl, rfl⟩, trivial⟩, fun ext => TL.load hF rfl (by first | exact At.own' (i := 0) rfl rfl | exact At.own' (i := 1) rfl rfl | exact At.own' (i := 2) rfl rfl | exact At.own' (i := 3) rfl rfl | exact At.own' (i := 4) rfl rfl | exact At.own' (i := 5) rfl rfl | exact At.own' (i := 6) rfl rfl | exact At.own' (i := 7) rfl rfl | exact At.own' (i := 8) rfl rfl | exact At.own' (i := 9) rfl rfl | exact At.own' (i := 10) rfl rfl | exact At.own' (i := 11) rfl rfl | exact At.own' (i := 12) rfl rfl) rfl TL.fin⟩, trivial⟩ ?_
            refine DH.k1 (by kernel_rfl) (by kernel_rfl) (by kernel_rfl) (by kernel_rfl) (HBK.mk (h := 4) [6, 10] [(24, _, some 1), (26, _, some 3)] rfl rfl rfl ⟨⟨rfl, rfl, rfl⟩, ⟨rfl, rfl, rfl⟩, trivial⟩ (by kernel_rfl) (fun ext => ?_))
            first | refine TL.append hF 2 rfl rfl rfl how (row_own (cs := [.int .i64 ((startS l).W k)]) (e := 3) List.mem_cons_self).src rfl rfl (by simp [Value.oneCell']) (by omega) (by omega) rfl (fun a1 cap1 seg1 ho1 => ?_) | refine TL.append hF 2 rfl rfl rfl how (row_own (cs := [.int .i64 ((startS l).W k)]) (e := 3) (upc _ List.mem_cons_self)).src rfl rfl (by simp [Value.oneCell']) (by omega) (by omega) rfl (fun a1 cap1 seg1 ho1 => ?_) | refine TL.append hF 2 rfl rfl rfl how (row_own (cs := [.int .i64 ((startS l).W k)]) (e := 3) (upc _ (upc _ List.mem_cons_self))).src rfl rfl (by simp [Value.oneCell']) (by omega) (by omega) rfl (fun a1 cap1 seg1 ho1 => ?_) | refine TL.append hF 3 rfl rfl rfl how (row_own (cs := [.int .i64 ((startS l).W k)]) (e := 3) List.mem_cons_self).src rfl rfl (by simp [Value.oneCell']) (by omega) (by omega) rfl (fun a1 cap1 seg1 ho1 => ?_) | refine TL.append hF 3 rfl rfl rfl how (row_own (cs := [.int .i64 ((startS l).W k)]) (e := 3) (upc _ List.mem_cons_self)).src rfl rfl (by simp [Value.oneCell']) (by omega) (by omega) rfl (fun a1 cap1 seg1 ho1 => ?_) | refine TL.append hF 3 rfl rfl rfl how (row_own (cs := [.int .i64 ((startS l).W k)]) (e := 3) (upc _ (upc _ List.mem_cons_self))).src rfl rfl (by simp [Value.oneCell']) (by omega) (by omega) rfl (fun a1 cap1 seg1 ho1 => ?_) | refine TL.append hF 4 rfl rfl rfl how (row_own (cs := [.int .i64 ((startS l).W k)]) (e := 3) List.mem_cons_self).src rfl rfl (by simp [Value.oneCell']) (by omega) (by omega) rfl (fun a1 cap1 seg1 ho1 => ?_) | refine TL.append hF 4 rfl rfl rfl how (row_own (cs := [.int .i64 ((startS l).W k)]) (e := 3) (upc _ List.mem_cons_self)).src rfl rfl (by simp [Value.oneCell']) (by omega) (by omega) rfl (fun a1 cap1 seg1 ho1 => ?_) | refine TL.append hF 4 rfl rfl rfl how (row_own (cs := [.int .i64 ((startS l).W k)]) (e := 3) (upc _ (upc _ List.mem_cons_self))).src rfl rfl (by simp [Value.oneCell']) (by omega) (by omega) rfl (fun a1 cap1 seg1 ho1 => ?_)
            refine TL.finK ⟨⟨_, rfl, _, _, [(28, _, some 5)], rfl, rfl, ⟨⟨rfl, rfl, rfl⟩, trivial⟩, fun ext => TL.load hF rfl (by first | exact At.own' (i := 0) rfl rfl | exact At.own' (i := 1) rfl rfl | exact At.own' (i := 2) rfl rfl | exact At.own' (i := 3) rfl rfl | exact At.own' (i := 4) rfl rfl | exact At.own' (i := 5) rfl rfl | exact At.own' (i := 6) rfl rfl | exact At.own' (i := 7) rfl rfl | exact At.own' (i := 8) rfl rfl | exact At.own' (i := 9) rfl rfl | exact At.own' (i := 10) rfl rfl | exact At.own' (i := 11) rfl rfl | exact At.own' (i := 12) rfl rfl) rfl TL.fin⟩, ⟨_, rfl, _, _, [(32, _, some 9)], rfl, rfl, ⟨⟨rfl, rfl, rfl⟩, trivial⟩, fun ext => TL.load hF rfl (by first | exact At.own' (i := 0) rfl rfl | exact At.own' (i := 1) rfl rfl | exact At.own' (i := 2) rfl rfl | exact At.own' (i := 3) rfl rfl | exact At.own' (i := 4) rfl rfl | exact At.own' (i := 5) rfl rfl | exact At.own' (i := 6) rfl rfl | exact At.own' (i := 7) rfl rfl | exact At.own' (i := 8) rfl rfl | exact At.own' (i := 9) rfl rfl | exact At.own' (i := 10) rfl rfl | exact At.own' (i := 11) rfl rfl | exact At.own' (i := 12) rfl rfl) rfl TL.fin⟩, trivial⟩ ?_
            refine DH.pure (i := 13) [(3, _, none)] rfl rfl rfl rfl ⟨⟨rfl, by kernel_rfl⟩, trivial⟩ (fun _ ext => TL.fieldAddr hF rfl rfl TL.fin) ?_
            refine DH.k1 (by kernel_rfl) (by kernel_rfl) (by kernel_rfl) (by kernel_rfl) (HBK.mk (h := 8) [10] [(29, _, some 6), (30, _, some 7)] rfl rfl rfl ⟨⟨rfl, rfl, rfl⟩, ⟨rfl, rfl, rfl⟩, trivial⟩ (by kernel_rfl) (fun ext => ?_))
            first | refine TL.append hF 4 rfl rfl rfl hoo (row_own (cs := [.int .i64 (-1)]) (e := 3) List.mem_cons_self).src rfl rfl (by simp [Value.oneCell']) (by omega) (by omega) rfl (fun a2 cap2 seg2 ho2 => ?_) | refine TL.append hF 4 rfl rfl rfl hoo (row_own (cs := [.int .i64 (-1)]) (e := 3) (upc _ List.mem_cons_self)).src rfl rfl (by simp [Value.oneCell']) (by omega) (by omega) rfl (fun a2 cap2 seg2 ho2 => ?_) | refine TL.append hF 4 rfl rfl rfl hoo (row_own (cs := [.int .i64 (-1)]) (e := 3) (upc _ (upc _ List.mem_cons_self))).src rfl rfl (by simp [Value.oneCell']) (by omega) (by omega) rfl (fun a2 cap2 seg2 ho2 => ?_) | refine TL.append hF 5 rfl rfl rfl hoo (row_own (cs := [.int .i64 (-1)]) (e := 3) List.mem_cons_self).src rfl rfl (by simp [Value.oneCell']) (by omega) (by omega) rfl (fun a2 cap2 seg2 ho2 => ?_) | refine TL.append hF 5 rfl rfl rfl hoo (row_own (cs := [.int .i64 (-1)]) (e := 3) (upc _ List.mem_cons_self)).src rfl rfl (by simp [Value.oneCell']) (by omega) (by omega) rfl (fun a2 cap2 seg2 ho2 => ?_) | refine TL.append hF 5 rfl rfl rfl hoo (row_own (cs := [.int .i64 (-1)]) (e := 3) (upc _ (upc _ List.mem_cons_self))).src rfl rfl (by simp [Value.oneCell']) (by omega) (by omega) rfl (fun a2 cap2 seg2 ho2 => ?_)
            refine TL.finK ⟨⟨_, rfl, _, _, [(32, _, some 9)], rfl, rfl, ⟨⟨rfl, rfl, rfl⟩, trivial⟩, fun ext => TL.load hF rfl (by first | exact At.own' (i := 0) rfl rfl | exact At.own' (i := 1) rfl rfl | exact At.own' (i := 2) rfl rfl | exact At.own' (i := 3) rfl rfl | exact At.own' (i := 4) rfl rfl | exact At.own' (i := 5) rfl rfl | exact At.own' (i := 6) rfl rfl | exact At.own' (i := 7) rfl rfl | exact At.own' (i := 8) rfl rfl | exact At.own' (i := 9) rfl rfl | exact At.own' (i := 10) rfl rfl | exact At.own' (i := 11) rfl rfl | exact At.own' (i := 12) rfl rfl) rfl TL.fin⟩, trivial⟩ ?_
            refine DH.heavy 12 [(33, _, some 10), (34, _, some 11)] (by kernel_rfl) (by kernel_rfl) (by kernel_rfl) (by kernel_rfl) rfl rfl rfl rfl ⟨⟨rfl, rfl, rfl⟩, ⟨rfl, rfl, rfl⟩, trivial⟩ (by kernel_rfl) (fun ext => ?_)
            first | refine TL.append hF 6 rfl rfl rfl hol (row_own (cs := [.int .i64 (-1)]) (e := 3) List.mem_cons_self).src rfl rfl (by simp [Value.oneCell']) (by omega) (by omega) rfl (fun a3 cap3 seg3 ho3 => ?_) | refine TL.append hF 6 rfl rfl rfl hol (row_own (cs := [.int .i64 (-1)]) (e := 3) (upc _ List.mem_cons_self)).src rfl rfl (by simp [Value.oneCell']) (by omega) (by omega) rfl (fun a3 cap3 seg3 ho3 => ?_) | refine TL.append hF 6 rfl rfl rfl hol (row_own (cs := [.int .i64 (-1)]) (e := 3) (upc _ (upc _ List.mem_cons_self))).src rfl rfl (by simp [Value.oneCell']) (by omega) (by omega) rfl (fun a3 cap3 seg3 ho3 => ?_)
            refine TL.finD ?_
            refine DH.done [(35, _), (31, _), (36, _), (27, _), (30, _), (26, _), (34, _), (33, _), (32, _), (29, _), (28, _), (25, _), (24, _), (23, _)] [_, _, _, _, _] (by kernel_rfl) (by kernel_rfl) (by kernel_rfl) (by kernel_rfl) rfl rfl ?_
            refine TL.storeI hF 3 rfl rfl rfl rfl (by simp) ?_
            refine TL.fieldAddr hF rfl rfl ?_
            refine TL.storeI hF 3 rfl rfl rfl rfl (by simp) ?_
            refine TL.fieldAddr hF rfl rfl ?_
            refine TL.storeI hF 3 rfl rfl rfl rfl (by simp) ?_
            refine TL.nil ?_
            refine TQ.block_n ?_
            refine TQ.then_n ?_
            refine T.region ?_
            refine TL.move hF rfl rfl ?_
            refine TL.add hF rfl rfl (by omega) (by omega) rfl ?_
            refine TL.assign hF rfl rfl ?_
            refine TL.nil ?_
            refine TQ.pop (TQ.pop (TQ.pop ?_))
            rw [intC_snoc] at ho1
            rw [intC_snoc (f := fun _ => -1)] at ho2 ho3
            exact TQ.round (k + 1, a1, cap1, seg1, a2, cap2, seg2, a3, cap3, seg3) ⟨by simp only; omega, ho1, ho2, ho3⟩ (by simp only; omega) ⟨rfl, rfl, rfl, rfl, trivial⟩ rfl
        · refine TL.buildSlice hF rfl (cs := #[.int .i64 (-1)]) (e := 3) (fun w => by kernel_rfl) rfl (fun b30 => ?_)
          refine TL.finK ⟨⟨_, rfl, _, _, [(23, _, some 0)], rfl, rfl, ⟨⟨rfl, rfl, rfl⟩, trivial⟩, fun ext => TL.load hF rfl (by first | exact At.own' (i := 0) rfl rfl | exact At.own' (i := 1) rfl rfl | exact At.own' (i := 2) rfl rfl | exact At.own' (i := 3) rfl rfl | exact At.own' (i := 4) rfl rfl | exact At.own' (i := 5) rfl rfl | exact At.own' (i := 6) rfl rfl | exact At.own' (i := 7) rfl rfl | exact At.own' (i := 8) rfl rfl | exact At.own' (i := 9) rfl rfl | exact At.own' (i := 10) rfl rfl | exact At.own' (i := 11) rfl rfl | exact At.own' (i := 12) rfl rfl) rfl TL.fin⟩, ⟨_, rfl, _, _, [(28, _, some 5)], rfl, rfl, ⟨⟨rfl, rfl, rfl⟩, trivial⟩, fun ext => TL.load hF rfl (by first | exact At.own' (i := 0) rfl rfl | exact At.own' (i := 1) rfl rfl | exact At.own' (i := 2) rfl rfl | exact At.own' (i := 3) rfl rfl | exact At.own' (i := 4) rfl rfl | exact At.own' (i := 5) rfl rfl | exact At.own' (i := 6) rfl rfl | exact At.own' (i := 7) rfl rfl | exact At.own' (i := 8) rfl rfl | exact At.own' (i := 9) rfl rfl | exact At.own' (i := 10) rfl rfl | exact At.own' (i := 11) rfl rfl | exact At.own' (i := 12) rfl rfl) rfl TL.fin⟩, ⟨_, rfl, _, _, [(32, _, some 9)], rfl, rfl, ⟨⟨rfl, rfl, rfl⟩, trivial⟩, fun ext => TL.load hF rfl (by first | exact At.own' (i := 0) rfl rfl | exact At.own' (i := 1) rfl rfl | exact At.own' (i := 2) rfl rfl | exact At.own' (i := 3) rfl rfl | exact At.own' (i := 4) rfl rfl | exact At.own' (i := 5) rfl rfl | exact At.own' (i := 6) rfl rfl | exact At.own' (i := 7) rfl rfl | exact At.own' (i := 8) rfl rfl | exact At.own' (i := 9) rfl rfl | exact At.own' (i := 10) rfl rfl | exact At.own' (i := 11) rfl rfl | exact At.own' (i := 12) rfl rfl) rfl TL.fin⟩, trivial⟩ ?_
          refine DH.k1 (by kernel_rfl) (by kernel_rfl) (by kernel_rfl) (by kernel_rfl) (HBK.mk (h := 3) [1, 6, 10] [(25, _, some 2)] rfl rfl rfl ⟨⟨rfl, rfl, rfl⟩, trivial⟩ (by kernel_rfl) (fun ext => ?_))
          refine TL.buildSlice hF rfl (cs := #[.int .i64 ((startS l).W k)]) (e := 3) (fun w => by kernel_rfl) rfl (fun b26 => ?_)
          refine TL.finK ⟨⟨_, rfl, _, _, [(23, _, some 0)], rfl, rfl, ⟨⟨rfl, rfl, rfl⟩, trivial⟩, fun ext => TL.load hF rfl (by first | exact At.own' (i := 0) rfl rfl | exact At.own' (i := 1) rfl rfl | exact At.own' (i := 2) rfl rfl | exact At.own' (i := 3) rfl rfl | exact At.own' (i := 4) rfl rfl | exact At.own' (i := 5) rfl rfl | exact At.own' (i := 6) rfl rfl | exact At.own' (i := 7) rfl rfl | exact At.own' (i := 8) rfl rfl | exact At.own' (i := 9) rfl rfl | exact At.own' (i := 10) rfl rfl | exact At.own' (i := 11) rfl rfl | exact At.own' (i := 12) rfl rfl) rfl TL.fin⟩, ⟨_, rfl, _, _, [(28, _, some 5)], rfl, rfl, ⟨⟨rfl, rfl, rfl⟩, trivial⟩, fun ext => TL.load hF rfl (by first | exact At.own' (i := 0) rfl rfl | exact At.own' (i := 1) rfl rfl | exact At.own' (i := 2) rfl rfl | exact At.own' (i := 3) rfl rfl | exact At.own' (i := 4) rfl rfl | exact At.own' (i := 5) rfl rfl | exact At.own' (i := 6) rfl rfl | exact At.own' (i := 7) rfl rfl | exact At.own' (i := 8) rfl rfl | exact At.own' (i := 9) rfl rfl | exact At.own' (i := 10) rfl rfl | exact At.own' (i := 11) rfl rfl | exact At.own' (i := 12) rfl rfl) rfl TL.fin⟩, ⟨_, rfl, _, _, [(32, _, some 9)], rfl, rfl, ⟨⟨rfl, rfl, rfl⟩, trivial⟩, fun ext => TL.load hF rfl (by first | exact At.own' (i := 0) rfl rfl | exact At.own' (i := 1) rfl rfl | exact At.own' (i := 2) rfl rfl | exact At.own' (i := 3) rfl rfl | exact At.own' (i := 4) rfl rfl | exact At.own' (i := 5) rfl rfl | exact At.own' (i := 6) rfl rfl | exact At.own' (i := 7) rfl rfl | exact At.own' (i := 8) rfl rfl | exact At.own' (i := 9) rfl rfl | exact At.own' (i := 10) rfl rfl | exact At.own' (i := 11) rfl rfl | exact At.own' (i := 12) rfl rfl) rfl TL.fin⟩, trivial⟩ ?_
          refine DH.k1 (by kernel_rfl) (by kernel_rfl) (by kernel_rfl) (by kernel_rfl) (HBK.mk (h := 4) [6, 10] [(24, _, some 1), (26, _, some 3)] rfl rfl rfl ⟨⟨rfl, rfl, rfl⟩, ⟨rfl, rfl, rfl⟩, trivial⟩ (by kernel_rfl) (fun ext => ?_))
          first | refine TL.append hF 2 rfl rfl rfl how (row_own (cs := [.int .i64 ((startS l).W k)]) (e := 3) List.mem_cons_self).src rfl rfl (by simp [Value.oneCell']) (by omega) (by omega) rfl (fun a1 cap1 seg1 ho1 => ?_) | refine TL.append hF 2 rfl rfl rfl how (row_own (cs := [.int .i64 ((startS l).W k)]) (e := 3) (upc _ List.mem_cons_self)).src rfl rfl (by simp [Value.oneCell']) (by omega) (by omega) rfl (fun a1 cap1 seg1 ho1 => ?_) | refine TL.append hF 2 rfl rfl rfl how (row_own (cs := [.int .i64 ((startS l).W k)]) (e := 3) (upc _ (upc _ List.mem_cons_self))).src rfl rfl (by simp [Value.oneCell']) (by omega) (by omega) rfl (fun a1 cap1 seg1 ho1 => ?_) | refine TL.append hF 3 rfl rfl rfl how (row_own (cs := [.int .i64 ((startS l).W k)]) (e := 3) List.mem_cons_self).src rfl rfl (by simp [Value.oneCell']) (by omega) (by omega) rfl (fun a1 cap1 seg1 ho1 => ?_) | refine TL.append hF 3 rfl rfl rfl how (row_own (cs := [.int .i64 ((startS l).W k)]) (e := 3) (upc _ List.mem_cons_self)).src rfl rfl (by simp [Value.oneCell']) (by omega) (by omega) rfl (fun a1 cap1 seg1 ho1 => ?_) | refine TL.append hF 3 rfl rfl rfl how (row_own (cs := [.int .i64 ((startS l).W k)]) (e := 3) (upc _ (upc _ List.mem_cons_self))).src rfl rfl (by simp [Value.oneCell']) (by omega) (by omega) rfl (fun a1 cap1 seg1 ho1 => ?_) | refine TL.append hF 4 rfl rfl rfl how (row_own (cs := [.int .i64 ((startS l).W k)]) (e := 3) List.mem_cons_self).src rfl rfl (by simp [Value.oneCell']) (by omega) (by omega) rfl (fun a1 cap1 seg1 ho1 => ?_) | refine TL.append hF 4 rfl rfl rfl how (row_own (cs := [.int .i64 ((startS l).W k)]) (e := 3) (upc _ List.mem_cons_self)).src rfl rfl (by simp [Value.oneCell']) (by omega) (by omega) rfl (fun a1 cap1 seg1 ho1 => ?_) | refine TL.append hF 4 rfl rfl rfl how (row_own (cs := [.int .i64 ((startS l).W k)]) (e := 3) (upc _ (upc _ List.mem_cons_self))).src rfl rfl (by simp [Value.oneCell']) (by omega) (by omega) rfl (fun a1 cap1 seg1 ho1 => ?_)
          refine TL.finK ⟨⟨_, rfl, _, _, [(28, _, some 5)], rfl, rfl, ⟨⟨rfl, rfl, rfl⟩, trivial⟩, fun ext => TL.load hF rfl (by first | exact At.own' (i := 0) rfl rfl | exact At.own' (i := 1) rfl rfl | exact At.own' (i := 2) rfl rfl | exact At.own' (i := 3) rfl rfl | exact At.own' (i := 4) rfl rfl | exact At.own' (i := 5) rfl rfl | exact At.own' (i := 6) rfl rfl | exact At.own' (i := 7) rfl rfl | exact At.own' (i := 8) rfl rfl | exact At.own' (i := 9) rfl rfl | exact At.own' (i := 10) rfl rfl | exact At.own' (i := 11) rfl rfl | exact At.own' (i := 12) rfl rfl) rfl TL.fin⟩, ⟨_, rfl, _, _, [(32, _, some 9)], rfl, rfl, ⟨⟨rfl, rfl, rfl⟩, trivial⟩, fun ext => TL.load hF rfl (by first | exact At.own' (i := 0) rfl rfl | exact At.own' (i := 1) rfl rfl | exact At.own' (i := 2) rfl rfl | exact At.own' (i := 3) rfl rfl | exact At.own' (i := 4) rfl rfl | exact At.own' (i := 5) rfl rfl | exact At.own' (i := 6) rfl rfl | exact At.own' (i := 7) rfl rfl | exact At.own' (i := 8) rfl rfl | exact At.own' (i := 9) rfl rfl | exact At.own' (i := 10) rfl rfl | exact At.own' (i := 11) rfl rfl | exact At.own' (i := 12) rfl rfl) rfl TL.fin⟩, trivial⟩ ?_
          refine DH.pure (i := 13) [(3, _, none)] rfl rfl rfl rfl ⟨⟨rfl, by kernel_rfl⟩, trivial⟩ (fun _ ext => TL.fieldAddr hF rfl rfl TL.fin) ?_
          refine DH.k1 (by kernel_rfl) (by kernel_rfl) (by kernel_rfl) (by kernel_rfl) (HBK.mk (h := 8) [10] [(29, _, some 6), (30, _, some 7)] rfl rfl rfl ⟨⟨rfl, rfl, rfl⟩, ⟨rfl, rfl, rfl⟩, trivial⟩ (by kernel_rfl) (fun ext => ?_))
          first | refine TL.append hF 4 rfl rfl rfl hoo (row_own (cs := [.int .i64 (-1)]) (e := 3) List.mem_cons_self).src rfl rfl (by simp [Value.oneCell']) (by omega) (by omega) rfl (fun a2 cap2 seg2 ho2 => ?_) | refine TL.append hF 4 rfl rfl rfl hoo (row_own (cs := [.int .i64 (-1)]) (e := 3) (upc _ List.mem_cons_self)).src rfl rfl (by simp [Value.oneCell']) (by omega) (by omega) rfl (fun a2 cap2 seg2 ho2 => ?_) | refine TL.append hF 4 rfl rfl rfl hoo (row_own (cs := [.int .i64 (-1)]) (e := 3) (upc _ (upc _ List.mem_cons_self))).src rfl rfl (by simp [Value.oneCell']) (by omega) (by omega) rfl (fun a2 cap2 seg2 ho2 => ?_) | refine TL.append hF 5 rfl rfl rfl hoo (row_own (cs := [.int .i64 (-1)]) (e := 3) List.mem_cons_self).src rfl rfl (by simp [Value.oneCell']) (by omega) (by omega) rfl (fun a2 cap2 seg2 ho2 => ?_) | refine TL.append hF 5 rfl rfl rfl hoo (row_own (cs := [.int .i64 (-1)]) (e := 3) (upc _ List.mem_cons_self)).src rfl rfl (by simp [Value.oneCell']) (by omega) (by omega) rfl (fun a2 cap2 seg2 ho2 => ?_) | refine TL.append hF 5 rfl rfl rfl hoo (row_own (cs := [.int .i64 (-1)]) (e := 3) (upc _ (upc _ List.mem_cons_self))).src rfl rfl (by simp [Value.oneCell']) (by omega) (by omega) rfl (fun a2 cap2 seg2 ho2 => ?_)
          refine TL.finK ⟨⟨_, rfl, _, _, [(32, _, some 9)], rfl, rfl, ⟨⟨rfl, rfl, rfl⟩, trivial⟩, fun ext => TL.load hF rfl (by first | exact At.own' (i := 0) rfl rfl | exact At.own' (i := 1) rfl rfl | exact At.own' (i := 2) rfl rfl | exact At.own' (i := 3) rfl rfl | exact At.own' (i := 4) rfl rfl | exact At.own' (i := 5) rfl rfl | exact At.own' (i := 6) rfl rfl | exact At.own' (i := 7) rfl rfl | exact At.own' (i := 8) rfl rfl | exact At.own' (i := 9) rfl rfl | exact At.own' (i := 10) rfl rfl | exact At.own' (i := 11) rfl rfl | exact At.own' (i := 12) rfl rfl) rfl TL.fin⟩, trivial⟩ ?_
          refine DH.heavy 12 [(33, _, some 10), (34, _, some 11)] (by kernel_rfl) (by kernel_rfl) (by kernel_rfl) (by kernel_rfl) rfl rfl rfl rfl ⟨⟨rfl, rfl, rfl⟩, ⟨rfl, rfl, rfl⟩, trivial⟩ (by kernel_rfl) (fun ext => ?_)
          first | refine TL.append hF 6 rfl rfl rfl hol (row_own (cs := [.int .i64 (-1)]) (e := 3) List.mem_cons_self).src rfl rfl (by simp [Value.oneCell']) (by omega) (by omega) rfl (fun a3 cap3 seg3 ho3 => ?_) | refine TL.append hF 6 rfl rfl rfl hol (row_own (cs := [.int .i64 (-1)]) (e := 3) (upc _ List.mem_cons_self)).src rfl rfl (by simp [Value.oneCell']) (by omega) (by omega) rfl (fun a3 cap3 seg3 ho3 => ?_) | refine TL.append hF 6 rfl rfl rfl hol (row_own (cs := [.int .i64 (-1)]) (e := 3) (upc _ (upc _ List.mem_cons_self))).src rfl rfl (by simp [Value.oneCell']) (by omega) (by omega) rfl (fun a3 cap3 seg3 ho3 => ?_)
          refine TL.finD ?_
          refine DH.done [(35, _), (31, _), (36, _), (27, _), (26, _), (30, _), (34, _), (33, _), (32, _), (29, _), (28, _), (25, _), (24, _), (23, _)] [_, _, _, _, _] (by kernel_rfl) (by kernel_rfl) (by kernel_rfl) (by kernel_rfl) rfl rfl ?_
          refine TL.storeI hF 3 rfl rfl rfl rfl (by simp) ?_
          refine TL.fieldAddr hF rfl rfl ?_
          refine TL.storeI hF 3 rfl rfl rfl rfl (by simp) ?_
          refine TL.fieldAddr hF rfl rfl ?_
          refine TL.storeI hF 3 rfl rfl rfl rfl (by simp) ?_
          refine TL.nil ?_
          refine TQ.block_n ?_
          refine TQ.then_n ?_
          refine T.region ?_
          refine TL.move hF rfl rfl ?_
          refine TL.add hF rfl rfl (by omega) (by omega) rfl ?_
          refine TL.assign hF rfl rfl ?_
          refine TL.nil ?_
          refine TQ.pop (TQ.pop (TQ.pop ?_))
          rw [intC_snoc] at ho1
          rw [intC_snoc (f := fun _ => -1)] at ho2 ho3
          exact TQ.round (k + 1, a1, cap1, seg1, a2, cap2, seg2, a3, cap3, seg3) ⟨by simp only; omega, ho1, ho2, ho3⟩ (by simp only; omega) ⟨rfl, rfl, rfl, rfl, trivial⟩ rfl
  · refine T.exit ?_
    refine TQ.then_x ?_
    refine TQ.then_x ?_
    refine TQ.block_x ?_
    refine TQ.then_n ?_
    refine T.seq ?_
    refine T.region ?_
    have hkn : k = l.length := by omega
    subst hkn
    obtain ⟨wb, wu, rfl, rfl, how⟩ := OIs.of how (by omega)
    obtain ⟨ob, ou, rfl, rfl, hoo⟩ := OIs.of hoo (by omega)
    obtain ⟨lb, lu, rfl, rfl, hol⟩ := OIs.of hol (by omega)
    refine TL.loadA hF (stV l.length ⟨wb, wc, wu, ob, oc, ou, lb, lc, lu⟩ 0) rfl rfl (own_list (i := 0) rfl) rfl ?_
    refine TL.storeAI hF (stV l.length ⟨wb, wc, wu, ob, oc, ou, lb, lc, lu⟩ 0) 4 rfl rfl rfl rfl (by simp [Value.oneCell']) (by simp) ?_
    refine TL.nil ?_
    refine TQ.then_n ?_
    refine T.ret ?_
    refine TQ.retC (stV l.length ⟨wb, wc, wu, ob, oc, ou, lb, lc, lu⟩ 0) (stH ⟨wb, wc, wu, ob, oc, ou, lb, lc, lu⟩ η) rfl rfl rfl (own_list (i := 4) rfl) (List.Sublist.cons _ (List.Sublist.cons_cons _ (List.Sublist.cons_cons _ (List.Sublist.cons_cons _ (List.sublist_cons_self _ _))))) ?_
    exact ⟨_, rfl, rfl, how, hoo, hol⟩
end Go.Proofs.YtefkmiomldhmjaaDoor
/- Which nodes are wanted, by the reference. -/
namespace Go.Proofs.YtefkmiomldhmjaaDoor
open Go.Sl
variable {S : Nat → Prop} {w0 : World} {η : Heap}
theorem Reach.last {l : List NodeD} {a b : Nat} (h : Reach l a b) : b = a ∨ ∃ p, Reach l a p ∧ ∃ f ∈ (nd l p).fr, f.toNat = b := by
  induction h with
  | refl => exact .inl rfl
  | step f hf t ih =>
    rename_i r i
    rcases ih with h | ⟨p, h1, h2⟩
    · exact .inr ⟨r, .refl _, f, hf, h.symm⟩
    · exact .inr ⟨p, .step f hf h1, h2⟩
def QP (l : List NodeD) (asks : List Int) (t : Nat) : Prop := ∃ r, r < l.length ∧ isRoot l asks r = true ∧ Reach l r t
theorem QP.iff {l : List NodeD} {asks : List Int} (hok : Ok l) {t : Nat} (ht : t < l.length) : QP l asks t ↔ isRoot l asks t = true ∨ ∃ p, t < p ∧ p < l.length ∧ QP l asks p ∧ (t : Int) ∈ (nd l p).fr := by
  constructor
  · rintro ⟨r, hr, h1, h2⟩
    rcases h2.last with h | ⟨p, h3, f, hf, hft⟩
    · subst h; exact .inl h1
    · have hp : p < l.length := by have := h3.le hok hr; omega
      have hf2 := hf
      rw [nd_eq hp] at hf2
      have := hok.fr p hp f hf2
      refine .inr ⟨p, by omega, hp, ⟨r, hr, h1, h3⟩, ?_⟩
      rw [← hft, Int.toNat_of_nonneg this.1]; exact hf
  · rintro (h | ⟨p, _, hp, ⟨r, hr, h1, h2⟩, hf⟩)
    · exact ⟨t, ht, h, .refl _⟩
    · exact ⟨r, hr, h1, h2.trans (.step _ hf (by rw [Int.toNat_natCast]; exact .refl _))⟩
def Swp (l : List NodeD) (asks : List Int) (q : Nat) (o : Nat → Bool) : Prop := ∀ t, t < l.length → (o t = true ↔ (q ≤ t ∧ QP l asks t) ∨ (t < q ∧ ∃ p, q ≤ p ∧ p < l.length ∧ QP l asks p ∧ (t : Int) ∈ (nd l p).fr))
theorem Swp.start (l : List NodeD) (asks : List Int) : Swp l asks l.length fun _ => false := fun t ht => by
  constructor
  · intro h; cases h
  · rintro (⟨h, _⟩ | ⟨_, p, h1, h2, _⟩) <;> omega
/-- What a node's own round makes. -/
def ownB (l : List NodeD) (asks : List Int) (k : Nat) (o : Nat → Bool) : Bool := o k || isRoot l asks k
theorem Swp.own {l : List NodeD} {asks : List Int} (hok : Ok l) {k : Nat} {o : Nat → Bool} (h : Swp l asks (k + 1) o) (hk : k < l.length) : ownB l asks k o = true ↔ QP l asks k := by
  unfold ownB
  rw [Bool.or_eq_true, h k hk, QP.iff hok hk]
  constructor
  · rintro ((⟨h1, _⟩ | ⟨_, p, h1, h2⟩) | h1)
    · omega
    · exact .inr ⟨p, by omega, h2⟩
    · exact .inl h1
  · rintro (h1 | ⟨p, h1, h2⟩)
    · exact .inr h1
    · exact .inl (.inr ⟨by omega, p, by omega, h2⟩)
def spread (l : List NodeD) (k j : Nat) (o : Nat → Bool) (b : Bool) (t : Nat) : Bool := if t = k then b else o t || (b && decide ((t : Int) ∈ (nd l k).fr.take j))
theorem Swp.step {l : List NodeD} {asks : List Int} (hok : Ok l) {k : Nat} {o : Nat → Bool} (h : Swp l asks (k + 1) o) (hk : k < l.length) {j : Nat} (hj : ownB l asks k o = true → (nd l k).fr.length ≤ j) : Swp l asks k (spread l k j o (ownB l asks k o)) := by
  intro t ht
  have ho := h.own hok hk
  unfold spread
  by_cases hb : ownB l asks k o = true
  · have hQ := ho.1 hb
    rw [hb]
    by_cases e : t = k
    · subst e; rw [if_pos rfl]; simp [hQ]
    · rw [if_neg e, Bool.or_eq_true, Bool.true_and, decide_eq_true_eq, List.take_of_length_le (hj hb), h t ht]
      constructor
      · rintro ((⟨h1, h2⟩ | ⟨h1, p, h2, h3⟩) | h1)
        · exact .inl ⟨by omega, h2⟩
        · exact .inr ⟨by omega, p, by omega, h3⟩
        · have hf := h1
          rw [nd_eq hk] at hf
          have := hok.fr k hk _ hf
          exact .inr ⟨by omega, k, Nat.le_refl _, hk, hQ, h1⟩
      · rintro (⟨h1, h2⟩ | ⟨h1, p, h2, h3, h4, h5⟩)
        · exact .inl (.inl ⟨by omega, h2⟩)
        · by_cases e2 : p = k
          · subst e2; exact .inr h5
          · exact .inl (.inr ⟨by omega, p, by omega, h3, h4, h5⟩)
  · have hQ : ¬ QP l asks k := fun hq => hb (ho.2 hq)
    have hb' : ownB l asks k o = false := by simpa using hb
    rw [hb']
    by_cases e : t = k
    · subst e; rw [if_pos rfl]; simp [hQ]
    · rw [if_neg e, Bool.false_and, Bool.or_false, h t ht]
      constructor
      · rintro (⟨h1, h2⟩ | ⟨h1, p, h2, h3⟩)
        · exact .inl ⟨by omega, h2⟩
        · exact .inr ⟨by omega, p, by omega, h3⟩
      · rintro (⟨h1, h2⟩ | ⟨h1, p, h2, h3, h4, h5⟩)
        · exact .inl ⟨by omega, h2⟩
        · by_cases e2 : p = k
          · subst e2; exact absurd h4 hQ
          · exact .inr ⟨by omega, p, by omega, h3, h4, h5⟩
theorem Swp.last {l : List NodeD} {asks : List Int} {o : Nat → Bool} (h : Swp l asks 0 o) {t : Nat} (ht : t < l.length) : (o t && decide ((nd l t).op ≠ 0)) = wantS l asks t := by
  rw [Bool.eq_iff_iff, Bool.and_eq_true, h t ht, wantS_iff, decide_eq_true_eq]
  unfold WantP QP
  constructor
  · rintro ⟨⟨_, h1⟩ | ⟨h1, _⟩, h2⟩
    · exact ⟨h2, h1⟩
    · omega
  · rintro ⟨h1, h2⟩; exact ⟨.inl ⟨Nat.zero_le _, h2⟩, h1⟩

set_option maxHeartbeats 2000000 in
theorem Wanted_ref {a : Option Addr} {l : List NodeD} {c : Nat} {x : InstD} (hn : Nodes S w0 [] a l) (hok : Ok l) (ha : Row S w0 [] x.aa (ints x.asks)) (hal : x.asks.length ≤ 10) :
    Rt Tryd.prog 31 [.slice a l.length c, .agg x.cells.toArray].toArray S w0 η (fun v η' => ∃ b, v = .slice (some ⟨b, 0, none⟩) l.length l.length ∧ η' = bseg b l.length (wantS l x.asks) :: η) := by
  have hF := open_wide
  refine Rt.of (fn := Tryd.f31) Tryd.func31 rfl rfl ?_
  refine T.seq ?_
  refine T.region ?_
  refine TL.box hF rfl rfl (fun b3 => ?_)
  refine TL.assign hF rfl rfl ?_
  refine TL.nil ?_
  refine TQ.then_n ?_
  refine T.seq ?_
  refine T.region ?_
  refine TL.move hF rfl rfl ?_
  refine TL.len hF rfl rfl ?_
  have hlen := hok.len
  have hpos := hok.pos
  refine TL.makeSlice hF rfl rfl rfl (by omega) (by omega) rfl (fun b12 => ?_)
  rw [rowC_false]
  refine TL.assign hF rfl rfl ?_
  refine TL.nil ?_
  refine TQ.then_n ?_
  refine T.seq ?_
  refine T.seq ?_
  refine T.region ?_
  refine TL.move hF rfl rfl ?_
  refine TL.len hF rfl rfl ?_
  refine TL.sub hF rfl rfl (by omega) (by omega) rfl ?_
  refine TL.assign hF rfl rfl ?_
  refine TL.nil ?_
  refine TQ.then_n ?_
  refine T.block ?_
  refine T.loop (ι := Nat × (Nat → Bool)) (fun i => i.1 ≤ l.length ∧ Swp l x.asks i.1 i.2) (fun i => [(0, .slice a l.length c), (3, ptr b3), (4, .slice none 0 0), (5, .slice (some ⟨b12, 0, none⟩) l.length l.length), (6, .int .i64 ((i.1 : Int) - 1))]) (fun i => bseg b12 l.length (i.2) :: [(b3, Obj.cells x.cells.toArray 50 (0, 0))] :: η) (fun i => i.1) (l.length, fun _ => false) ⟨Nat.le_refl _, Swp.start l x.asks⟩ ⟨rfl, rfl, rfl, rfl, rfl, trivial⟩ rfl ?_
  rintro ⟨k1, o⟩ ⟨hk1, hsw⟩
  simp only at hk1 hsw
  refine T.seq ?_
  refine T.seq ?_
  refine T.region ?_
  refine TL.move hF rfl rfl ?_
  refine TL.bin hF rfl rfl rfl rfl ?_
  refine TL.nil ?_
  refine TQ.then_n ?_
  first | refine T.cond_d rfl (fun ht17 => ?_) (fun ht17 => ?_) | refine T.cond _ rfl (fun ht17 => ?_) (fun ht17 => ?_)
  · refine T.skip ?_
    refine TQ.then_n ?_
    refine T.seq ?_
    refine T.block ?_
    obtain ⟨k, rfl⟩ : ∃ k, k1 = k + 1 := ⟨k1 - 1, by omega⟩
    have ek : (((k + 1 : Nat) : Int) - 1) = (k : Int) := by omega
    have hkl : k < l.length := by omega
    have hrow := hn.frow hkl
    have hfr := hok.fr k hkl
    have hfew := hok.few k hkl
    rw [← nd_eq hkl] at hrow hfr hfew
    rw [ek]
    refine T.cut (ι := Unit) (fun _ => True) (fun _ => [(0, .slice a l.length c), (3, ptr b3), (4, .slice none 0 0), (5, .slice (some ⟨b12, 0, none⟩) l.length l.length), (6, .int .i64 (k : Int))]) (fun _ => bseg b12 l.length (upd o k (o k || (nd l k).eager)) :: [(b3, Obj.cells x.cells.toArray 50 (0, 0))] :: η) ?_ ?_
    · refine T.region ?_
      refine TL.move hF rfl rfl ?_
      refine TL.move hF rfl rfl ?_
      refine TL.move hF rfl rfl ?_
      refine TL.move hF rfl rfl ?_
      refine TL.indexAddr hF rfl rfl ⟨_, rfl, rfl⟩ (by omega) (by omega) rfl ?_
      refine TL.load hF rfl (bseg_at (f := o) (n := l.length) (b := b12) (j := k) List.mem_cons_self hkl) rfl ?_
      refine TL.move hF rfl rfl ?_
      refine TL.gb (t := 26) rfl (fun g5_26 => ?_) (fun g5_26 => ?_)
      · refine TL.off hF rfl rfl rfl g5_26 rfl ?_
        refine TL.off hF rfl rfl rfl g5_26 rfl ?_
        refine TL.off hF rfl rfl rfl g5_26 rfl ?_
        refine TL.off hF rfl rfl rfl g5_26 rfl ?_
        refine TL.off hF rfl rfl rfl g5_26 rfl ?_
        refine TL.pickT hF rfl g5_26 rfl rfl ?_
        refine TL.indexAddr hF rfl rfl ⟨_, rfl, rfl⟩ (by omega) (by omega) rfl ?_
        refine TL.storeI hF 0 rfl rfl rfl rfl (by simp [rowC_len]; omega) ?_
        refine TL.nil ?_
        exact TQ.cut () trivial ⟨rfl, rfl, rfl, rfl, rfl, trivial⟩ (bseg_set (j := k) (by simp) (fun i _ => by unfold upd; split <;> simp_all))
      · refine TL.on rfl rfl rfl g5_26 ?_
        refine TL.move hF rfl rfl ?_
        refine TL.on rfl rfl rfl g5_26 ?_
        refine TL.move hF rfl rfl ?_
        refine TL.on rfl rfl rfl g5_26 ?_
        refine TL.indexAddr hF rfl rfl (hn.ad (i := k) hkl) (by omega) (by omega) rfl ?_
        refine TL.on rfl rfl rfl g5_26 ?_
        refine TL.fieldAddr hF rfl rfl ?_
        refine TL.on rfl rfl rfl g5_26 ?_
        refine TL.load hF rfl (v := .bool (nd l k).eager) (by rw [nd_eq hkl]; exact hn.ro.at (i := k) hkl 3 rfl) rfl ?_
        refine TL.pickF hF rfl g5_26 rfl rfl ?_
        refine TL.indexAddr hF rfl rfl ⟨_, rfl, rfl⟩ (by omega) (by omega) rfl ?_
        refine TL.storeI hF 0 rfl rfl rfl rfl (by simp [rowC_len]; omega) ?_
        refine TL.nil ?_
        exact TQ.cut () trivial ⟨rfl, rfl, rfl, rfl, rfl, trivial⟩ (bseg_set (j := k) (by simp) (fun i _ => by unfold upd; split <;> simp_all))
    · intro _ _
      refine T.seq ?_
      refine T.seq ?_
      refine T.region ?_
      refine TL.assign hF rfl rfl ?_
      refine TL.nil ?_
      refine TQ.then_n ?_
      refine T.block ?_
      refine T.loop (ι := Nat) (fun j => j ≤ x.asks.length) (fun j => [(0, .slice a l.length c), (3, ptr b3), (4, .slice none 0 0), (5, .slice (some ⟨b12, 0, none⟩) l.length l.length), (6, .int .i64 (k : Int)), (7, .int .i64 (j : Int))]) (fun j => bseg b12 l.length (upd o k (o k || (nd l k).eager || decide ((k : Int) ∈ x.asks.take j))) :: [(b3, Obj.cells x.cells.toArray 50 (0, 0))] :: η) (fun j => x.asks.length - j) 0 (Nat.zero_le _) ⟨rfl, rfl, rfl, rfl, rfl, rfl, trivial⟩ (by simp) ?_
      intro j hj
      refine T.seq ?_
      refine T.seq ?_
      refine T.region ?_
      refine TL.move hF rfl rfl ?_
      refine TL.fieldAddr hF rfl rfl ?_
      refine TL.load hF rfl (by first | exact At.own' (i := 0) rfl rfl | exact At.own' (i := 1) rfl rfl | exact At.own' (i := 2) rfl rfl | exact At.own' (i := 3) rfl rfl | exact At.own' (i := 4) rfl rfl | exact At.own' (i := 5) rfl rfl | exact At.own' (i := 6) rfl rfl | exact At.own' (i := 7) rfl rfl | exact At.own' (i := 8) rfl rfl | exact At.own' (i := 9) rfl rfl | exact At.own' (i := 10) rfl rfl | exact At.own' (i := 11) rfl rfl | exact At.own' (i := 12) rfl rfl) rfl ?_
      refine TL.len hF rfl rfl ?_
      refine TL.bin hF rfl rfl rfl rfl ?_
      refine TL.nil ?_
      refine TQ.then_n ?_
      first | refine T.cond_d rfl (fun ht38 => ?_) (fun ht38 => ?_) | refine T.cond _ rfl (fun ht38 => ?_) (fun ht38 => ?_)
      · refine T.skip ?_
        refine TQ.then_n ?_
        refine T.seq ?_
        refine T.block ?_
        refine T.region ?_
        refine TL.move hF rfl rfl ?_
        refine TL.move hF rfl rfl ?_
        refine TL.move hF rfl rfl ?_
        refine TL.move hF rfl rfl ?_
        refine TL.indexAddr hF rfl rfl ⟨_, rfl, rfl⟩ (by omega) (by omega) rfl ?_
        refine TL.load hF rfl (bseg_at (f := upd o k (o k || (nd l k).eager || decide ((k : Int) ∈ x.asks.take j))) (n := l.length) (b := b12) (j := k) List.mem_cons_self hkl) rfl ?_
        refine TL.move hF rfl rfl ?_
        refine TL.gb (t := 47) rfl (fun g9_47 => ?_) (fun g9_47 => ?_)
        · refine TL.off hF rfl rfl rfl g9_47 rfl ?_
          refine TL.off hF rfl rfl rfl g9_47 rfl ?_
          refine TL.off hF rfl rfl rfl g9_47 rfl ?_
          refine TL.off hF rfl rfl rfl g9_47 rfl ?_
          refine TL.off hF rfl rfl rfl g9_47 rfl ?_
          refine TL.off hF rfl rfl rfl g9_47 rfl ?_
          refine TL.off hF rfl rfl rfl g9_47 rfl ?_
          refine TL.pickT hF rfl g9_47 rfl rfl ?_
          refine TL.indexAddr hF rfl rfl ⟨_, rfl, rfl⟩ (by omega) (by omega) rfl ?_
          refine TL.storeI hF 0 rfl rfl rfl rfl (by simp [rowC_len]; omega) ?_
          refine TL.nil ?_
          refine TQ.block_n ?_
          refine TQ.then_n ?_
          refine T.region ?_
          refine TL.move hF rfl rfl ?_
          refine TL.add hF rfl rfl (by omega) (by omega) rfl ?_
          refine TL.assign hF rfl rfl ?_
          refine TL.nil ?_
          rw [upd_same] at g9_47
          refine TQ.round (j + 1) (by omega) (by omega) ⟨rfl, rfl, rfl, rfl, rfl, rfl, trivial⟩ (bseg_set (j := k) (by simp) (fun i _ => ?_))
          by_cases e : i = k
          · subst e
            rw [if_pos rfl, upd_same, List.take_succ_eq_append_getElem (by omega)]
            rw [Bool.or_eq_true] at g9_47
            rcases g9_47 with h | h
            · rw [h]; rfl
            · rw [decide_eq_true (List.mem_append_left _ (of_decide_eq_true h)), Bool.or_true]
          · rw [if_neg e, upd_ne _ _ e, upd_ne _ _ e]
        · refine TL.on rfl rfl rfl g9_47 ?_
          refine TL.fieldAddr hF rfl rfl ?_
          refine TL.on rfl rfl rfl g9_47 ?_
          refine TL.load hF rfl (by first | exact At.own' (i := 0) rfl rfl | exact At.own' (i := 1) rfl rfl | exact At.own' (i := 2) rfl rfl | exact At.own' (i := 3) rfl rfl | exact At.own' (i := 4) rfl rfl | exact At.own' (i := 5) rfl rfl | exact At.own' (i := 6) rfl rfl | exact At.own' (i := 7) rfl rfl | exact At.own' (i := 8) rfl rfl | exact At.own' (i := 9) rfl rfl | exact At.own' (i := 10) rfl rfl | exact At.own' (i := 11) rfl rfl | exact At.own' (i := 12) rfl rfl) rfl ?_
          refine TL.on rfl rfl rfl g9_47 ?_
          refine TL.move hF rfl rfl ?_
          refine TL.on rfl rfl rfl g9_47 ?_
          refine TL.indexAddr hF rfl rfl (ha.adi (i := j) (by rw [List.length_map]; omega)) (by omega) (by omega) rfl ?_
          refine TL.on rfl rfl rfl g9_47 ?_
          refine TL.load hF rfl (ha.ro.int (i := j) (by omega)) rfl ?_
          refine TL.on rfl rfl rfl g9_47 ?_
          refine TL.move hF rfl rfl ?_
          refine TL.on rfl rfl rfl g9_47 ?_
          refine TL.bin hF rfl rfl rfl rfl ?_
          refine TL.pickF hF rfl g9_47 rfl rfl ?_
          refine TL.indexAddr hF rfl rfl ⟨_, rfl, rfl⟩ (by omega) (by omega) rfl ?_
          refine TL.storeI hF 0 rfl rfl rfl rfl (by simp [rowC_len]; omega) ?_
          refine TL.nil ?_
          refine TQ.block_n ?_
          refine TQ.then_n ?_
          refine T.region ?_
          refine TL.move hF rfl rfl ?_
          refine TL.add hF rfl rfl (by omega) (by omega) rfl ?_
          refine TL.assign hF rfl rfl ?_
          refine TL.nil ?_
          rw [upd_same] at g9_47
          refine TQ.round (j + 1) (by omega) (by omega) ⟨rfl, rfl, rfl, rfl, rfl, rfl, trivial⟩ (bseg_set (j := k) (by simp) (fun i _ => ?_))
          by_cases e : i = k
          · subst e
            rw [if_pos rfl, upd_same, List.take_succ_eq_append_getElem (by omega)]
            rw [Bool.or_eq_false_iff] at g9_47
            rw [g9_47.1, Bool.false_or]
            have h2 := of_decide_eq_false g9_47.2
            rw [decide_eq_decide, List.mem_append, List.mem_singleton]
            constructor
            · rintro (h | h)
              · exact absurd h h2
              · exact h.symm
            · intro h; exact .inr h.symm
          · rw [if_neg e, upd_ne _ _ e, upd_ne _ _ e]
      · refine T.exit ?_
        refine TQ.then_x ?_
        refine TQ.then_x ?_
        refine TQ.block_x ?_
        refine TQ.then_n ?_
        refine T.seq ?_
        refine T.region ?_
        refine TL.assign hF rfl rfl ?_
        refine TL.nil ?_
        refine TQ.then_n ?_
        refine T.block ?_
        have hjx : x.asks.take j = x.asks := List.take_of_length_le (by omega)
        have hbo : (o k || (nd l k).eager || decide ((k : Int) ∈ x.asks.take j)) = ownB l x.asks k o := by rw [hjx]; unfold ownB isRoot; rw [Bool.or_assoc]
        rw [hbo]
        refine T.loop (ι := Nat) (fun j => j ≤ (nd l k).fr.length) (fun j => [(0, .slice a l.length c), (3, ptr b3), (4, .slice none 0 0), (5, .slice (some ⟨b12, 0, none⟩) l.length l.length), (6, .int .i64 (k : Int)), (8, .int .i64 (j : Int))]) (fun j => bseg b12 l.length (spread l k j o (ownB l x.asks k o)) :: [(b3, Obj.cells x.cells.toArray 50 (0, 0))] :: η) (fun j => (nd l k).fr.length - j) 0 (Nat.zero_le _) ⟨rfl, rfl, rfl, rfl, rfl, rfl, trivial⟩ (bseg_congr (fun i _ => by unfold upd spread; split <;> simp)) ?_
        clear hj ht38 hjx hbo j
        intro j hj
        have hsk : spread l k j o (ownB l x.asks k o) k = ownB l x.asks k o := by unfold spread; rw [if_pos rfl]
        refine T.seq ?_
        refine T.seq ?_
        refine T.region ?_
        refine TL.move hF rfl rfl ?_
        refine TL.move hF rfl rfl ?_
        refine TL.move hF rfl rfl ?_
        refine TL.indexAddr hF rfl rfl (hn.ad (i := k) hkl) (by omega) (by omega) rfl ?_
        refine TL.fieldAddr hF rfl rfl ?_
        refine TL.load hF rfl (v := .slice (nd l k).fa (nd l k).fr.length (nd l k).fc) (by rw [nd_eq hkl]; exact hn.ro.at (i := k) hkl 2 rfl) rfl ?_
        refine TL.len hF rfl rfl ?_
        refine TL.bin hF rfl rfl rfl rfl ?_
        refine TL.move hF rfl rfl ?_
        refine TL.gd (t := 65) rfl (fun g11_65 => ?_) (fun g11_65 => ?_)
        · refine TL.on rfl rfl rfl (decide_eq_true g11_65) ?_
          refine TL.move hF rfl rfl ?_
          refine TL.on rfl rfl rfl (decide_eq_true g11_65) ?_
          refine TL.move hF rfl rfl ?_
          refine TL.on rfl rfl rfl (decide_eq_true g11_65) ?_
          refine TL.indexAddr hF rfl rfl ⟨_, rfl, rfl⟩ (by omega) (by omega) rfl ?_
          refine TL.on rfl rfl rfl (decide_eq_true g11_65) ?_
          refine TL.load hF rfl (bseg_at (f := spread l k j o (ownB l x.asks k o)) (n := l.length) (b := b12) (j := k) List.mem_cons_self hkl) rfl ?_
          refine TL.pickT hF rfl (decide_eq_true g11_65) rfl rfl ?_
          refine TL.nil ?_
          refine TQ.then_n ?_
          refine T.cond _ rfl (fun hb70 => ?_) (fun hb70 => ?_)
          all_goals rw [hsk] at hb70
          · refine T.skip ?_
            refine TQ.then_n ?_
            refine T.seq ?_
            refine T.block ?_
            refine T.region ?_
            refine TL.move hF rfl rfl ?_
            refine TL.move hF rfl rfl ?_
            refine TL.move hF rfl rfl ?_
            refine TL.indexAddr hF rfl rfl (hn.ad (i := k) hkl) (by omega) (by omega) rfl ?_
            refine TL.fieldAddr hF rfl rfl ?_
            refine TL.load hF rfl (v := .slice (nd l k).fa (nd l k).fr.length (nd l k).fc) (by rw [nd_eq hkl]; exact hn.ro.at (i := k) hkl 2 rfl) rfl ?_
            refine TL.move hF rfl rfl ?_
            refine TL.indexAddr hF rfl rfl (hrow.adi (i := j) (by rw [List.length_map]; omega)) (by omega) (by omega) rfl ?_
            refine TL.load hF rfl (hrow.ro.int (i := j) (by omega)) rfl ?_
            have hjl : j < (nd l k).fr.length := by omega
            have hf := hfr ((nd l k).fr[j]'hjl) (List.getElem_mem _)
            refine TL.indexAddr hF rfl rfl ⟨_, rfl, rfl⟩ (by omega) (by omega) rfl ?_
            refine TL.storeI hF 0 rfl rfl rfl rfl (by simp [rowC_len]; omega) ?_
            refine TL.nil ?_
            refine TQ.block_n ?_
            refine TQ.then_n ?_
            refine T.region ?_
            refine TL.move hF rfl rfl ?_
            refine TL.add hF rfl rfl (by omega) (by omega) rfl ?_
            refine TL.assign hF rfl rfl ?_
            refine TL.nil ?_
            refine TQ.round (j + 1) (by omega) (by omega) ⟨rfl, rfl, rfl, rfl, rfl, rfl, trivial⟩ (bseg_set (j := ((nd l k).fr[j]'hjl).toNat) (by simp) (fun i _ => ?_))
            have hfe : (((nd l k).fr[j]'hjl).toNat : Int) = (nd l k).fr[j]'hjl := Int.toNat_of_nonneg hf.1
            unfold spread
            rw [hb70, List.take_succ_eq_append_getElem hjl]
            by_cases e : i = k
            · subst e; rw [if_pos rfl, if_neg (by omega), if_pos rfl]
            · rw [if_neg e, if_neg e]
              by_cases e2 : i = ((nd l k).fr[j]'hjl).toNat
              · rw [if_pos e2, decide_eq_true (List.mem_append_right _ (List.mem_singleton.2 (by omega)))]; simp
              · rw [if_neg e2]
                congr 2
                rw [decide_eq_decide, List.mem_append, List.mem_singleton]
                constructor
                · rintro (h | h)
                  · exact h
                  · omega
                · exact .inl
          · refine T.exit ?_
            refine TQ.then_x ?_
            refine TQ.then_x ?_
            refine TQ.block_x ?_
            refine TQ.block_n ?_
            refine TQ.then_n ?_
            refine T.region ?_
            refine TL.move hF rfl rfl ?_
            refine TL.sub hF rfl rfl (by omega) (by omega) rfl ?_
            refine TL.assign hF rfl rfl ?_
            refine TL.nil ?_
            refine TQ.round (k, spread l k j o (ownB l x.asks k o)) ⟨by simp only; omega, hsw.step hok hkl (fun h => by rw [hb70] at h; cases h)⟩ (by simp only; omega) ⟨rfl, rfl, rfl, rfl, rfl, trivial⟩ rfl
        · refine TL.off hF rfl rfl rfl (decide_eq_false g11_65) rfl ?_
          refine TL.off hF rfl rfl rfl (decide_eq_false g11_65) rfl ?_
          refine TL.off hF rfl rfl rfl (decide_eq_false g11_65) rfl ?_
          refine TL.off hF rfl rfl rfl (decide_eq_false g11_65) rfl ?_
          refine TL.pickF hF rfl (decide_eq_false g11_65) rfl rfl ?_
          refine TL.nil ?_
          refine TQ.then_n ?_
          refine T.cond_f rfl rfl ?_
          refine T.exit ?_
          refine TQ.then_x ?_
          refine TQ.then_x ?_
          refine TQ.block_x ?_
          refine TQ.block_n ?_
          refine TQ.then_n ?_
          refine T.region ?_
          refine TL.move hF rfl rfl ?_
          refine TL.sub hF rfl rfl (by omega) (by omega) rfl ?_
          refine TL.assign hF rfl rfl ?_
          refine TL.nil ?_
          refine TQ.round (k, spread l k j o (ownB l x.asks k o)) ⟨by simp only; omega, hsw.step hok hkl (fun _ => by omega)⟩ (by simp only; omega) ⟨rfl, rfl, rfl, rfl, rfl, trivial⟩ rfl
  · refine T.exit ?_
    refine TQ.then_x ?_
    refine TQ.then_x ?_
    refine TQ.block_x ?_
    refine TQ.then_n ?_
    refine T.seq ?_
    refine T.seq ?_
    refine T.region ?_
    refine TL.assign hF rfl rfl ?_
    refine TL.nil ?_
    refine TQ.then_n ?_
    refine T.block ?_
    have hk0 : k1 = 0 := by omega
    subst hk0
    refine T.loop (ι := Nat) (fun i => i ≤ l.length) (fun i => [(0, .slice a l.length c), (4, .slice none 0 0), (5, .slice (some ⟨b12, 0, none⟩) l.length l.length), (9, .int .i64 (i : Int))]) (fun i => bseg b12 l.length (fun t => if t < i then o t && decide ((nd l t).op ≠ 0) else o t) :: [(b3, Obj.cells x.cells.toArray 50 (0, 0))] :: η) (fun i => l.length - i) 0 (Nat.zero_le _) ⟨rfl, rfl, rfl, rfl, trivial⟩ (bseg_congr (fun t _ => by simp)) ?_
    intro k hk
    refine T.seq ?_
    refine T.seq ?_
    refine T.region ?_
    refine TL.move hF rfl rfl ?_
    refine TL.move hF rfl rfl ?_
    refine TL.len hF rfl rfl ?_
    refine TL.bin hF rfl rfl rfl rfl ?_
    refine TL.nil ?_
    refine TQ.then_n ?_
    first | refine T.cond_d rfl (fun ht86 => ?_) (fun ht86 => ?_) | refine T.cond _ rfl (fun ht86 => ?_) (fun ht86 => ?_)
    · refine T.skip ?_
      refine TQ.then_n ?_
      refine T.seq ?_
      refine T.block ?_
      refine T.region ?_
      refine TL.move hF rfl rfl ?_
      refine TL.move hF rfl rfl ?_
      refine TL.move hF rfl rfl ?_
      refine TL.move hF rfl rfl ?_
      refine TL.indexAddr hF rfl rfl ⟨_, rfl, rfl⟩ (by omega) (by omega) rfl ?_
      refine TL.load hF rfl (bseg_at (f := fun t => if t < k then o t && decide ((nd l t).op ≠ 0) else o t) (n := l.length) (b := b12) (j := k) List.mem_cons_self (by omega)) rfl ?_
      refine TL.move hF rfl rfl ?_
      refine TL.gb (t := 95) rfl (fun g17_95 => ?_) (fun g17_95 => ?_)
      · refine TL.on rfl rfl rfl g17_95 ?_
        refine TL.move hF rfl rfl ?_
        refine TL.on rfl rfl rfl g17_95 ?_
        refine TL.move hF rfl rfl ?_
        refine TL.on rfl rfl rfl g17_95 ?_
        refine TL.indexAddr hF rfl rfl (hn.ad (i := k) (by omega)) (by omega) (by omega) rfl ?_
        refine TL.on rfl rfl rfl g17_95 ?_
        refine TL.fieldAddr hF rfl rfl ?_
        refine TL.on rfl rfl rfl g17_95 ?_
        refine TL.load hF rfl (v := .int .i64 (nd l k).op) (by rw [nd_eq (by omega)]; exact hn.ro.at (i := k) (by omega) 0 rfl) rfl ?_
        refine TL.on rfl rfl rfl g17_95 ?_
        refine TL.bin hF rfl rfl rfl rfl ?_
        refine TL.pickT hF rfl g17_95 rfl rfl ?_
        refine TL.indexAddr hF rfl rfl ⟨_, rfl, rfl⟩ (by omega) (by omega) rfl ?_
        refine TL.storeI hF 0 rfl rfl rfl rfl (by simp [rowC_len]; omega) ?_
        refine TL.nil ?_
        refine TQ.block_n ?_
        refine TQ.then_n ?_
        refine T.region ?_
        refine TL.move hF rfl rfl ?_
        refine TL.add hF rfl rfl (by omega) (by omega) rfl ?_
        refine TL.assign hF rfl rfl ?_
        refine TL.nil ?_
        rw [if_neg (Nat.lt_irrefl k)] at g17_95
        refine TQ.round (k + 1) (by omega) (by omega) ⟨rfl, rfl, rfl, rfl, trivial⟩ (bseg_set (j := k) (by simp) (fun i _ => ?_))
        by_cases e : i = k
        · subst e; rw [if_pos rfl, if_pos (by omega), g17_95, Bool.true_and]
        · rw [if_neg e]
          by_cases h : i < k
          · rw [if_pos h, if_pos (by omega)]
          · rw [if_neg h, if_neg (by omega)]
      · refine TL.off hF rfl rfl rfl g17_95 rfl ?_
        refine TL.off hF rfl rfl rfl g17_95 rfl ?_
        refine TL.off hF rfl rfl rfl g17_95 rfl ?_
        refine TL.off hF rfl rfl rfl g17_95 rfl ?_
        refine TL.off hF rfl rfl rfl g17_95 rfl ?_
        refine TL.off hF rfl rfl rfl g17_95 rfl ?_
        refine TL.pickF hF rfl g17_95 rfl rfl ?_
        refine TL.indexAddr hF rfl rfl ⟨_, rfl, rfl⟩ (by omega) (by omega) rfl ?_
        refine TL.storeI hF 0 rfl rfl rfl rfl (by simp [rowC_len]; omega) ?_
        refine TL.nil ?_
        refine TQ.block_n ?_
        refine TQ.then_n ?_
        refine T.region ?_
        refine TL.move hF rfl rfl ?_
        refine TL.add hF rfl rfl (by omega) (by omega) rfl ?_
        refine TL.assign hF rfl rfl ?_
        refine TL.nil ?_
        rw [if_neg (Nat.lt_irrefl k)] at g17_95
        refine TQ.round (k + 1) (by omega) (by omega) ⟨rfl, rfl, rfl, rfl, trivial⟩ (bseg_set (j := k) (by simp) (fun i _ => ?_))
        by_cases e : i = k
        · subst e; rw [if_pos rfl, if_pos (by omega), g17_95, Bool.false_and]
        · rw [if_neg e]
          by_cases h : i < k
          · rw [if_pos h, if_pos (by omega)]
          · rw [if_neg h, if_neg (by omega)]
    · refine T.exit ?_
      refine TQ.then_x ?_
      refine TQ.then_x ?_
      refine TQ.block_x ?_
      refine TQ.then_n ?_
      refine T.seq ?_
      refine T.region ?_
      refine TL.move hF rfl rfl ?_
      refine TL.assign hF rfl rfl ?_
      refine TL.nil ?_
      refine TQ.then_n ?_
      refine T.ret ?_
      have hkn : k = l.length := by omega
      subst hkn
      refine TQ.hsub (bseg b12 l.length (fun t => if t < l.length then o t && decide ((nd l t).op ≠ 0) else o t) :: η) (List.Sublist.cons_cons _ (List.sublist_cons_self _ _)) ?_
      refine TQ.rets [4] _ rfl rfl rfl ?_
      exact ⟨b12, rfl, bseg_congr (fun t ht => by rw [if_pos ht]; exact hsw.last ht)⟩
end Go.Proofs.YtefkmiomldhmjaaDoor
/- What is ready, and what is old, by the reference. -/
namespace Go.Proofs.YtefkmiomldhmjaaDoor
open Go.Sl
variable {S : Nat → Prop} {w0 : World} {η : Heap}
theorem SOk.range {n : Nat} {d : SD} {s : St} (_h : SOk n d s) : True := trivial
structure SIn (η : Heap) (d : SD) : Prop where
  w : cseg d.wb d.wu ∈ η
  o : cseg d.ob d.ou ∈ η
  l : cseg d.lb d.lu ∈ η
theorem SIn.up {η' : Heap} {d : SD} (h : SIn η d) (hs : ∀ x ∈ η, x ∈ η') : SIn η' d := ⟨hs _ h.w, hs _ h.o, hs _ h.l⟩
theorem stCells (n : Nat) (d : SD) (u : Nat) : ∀ v ∈ stV n d u, v.oneCell' = true := by
  intro v hv; simp only [stV, List.mem_cons, List.not_mem_nil, or_false] at hv
  rcases hv with rfl | rfl | rfl | rfl <;> rfl

set_option maxHeartbeats 2000000 in
theorem old_fn {n : Nat} {d : SD} {s : St} {x : NodeD} {u i : Nat} (hs : SOk n d s) (hm : SIn η d) (hf : Row S w0 [] x.fa (ints x.fr)) (hfl : x.fr.length < 2 ^ 63) (hin : ∀ f ∈ x.fr, 0 ≤ f ∧ f < n) (hi : i < n) :
    Rt Tryd.prog 67 [.agg x.cells.toArray, .agg (stV n d u).toArray, .int .i64 (i : Int)].toArray S w0 η (fun v η' => v = .bool (oldS x s i) ∧ η' = η) := by
  have hF := open_wide
  refine Rt.of (fn := Tryd.f67) Tryd.func67 rfl rfl ?_
  refine T.seq ?_
  refine T.region ?_
  refine TL.box hF rfl rfl (fun b3 => ?_)
  refine TL.box hF rfl rfl (fun b4 => ?_)
  refine TL.assign hF rfl rfl ?_
  refine TL.nil ?_
  refine TQ.then_n ?_
  refine T.seq ?_
  refine T.seq ?_
  refine T.region ?_
  refine TL.assign hF rfl rfl ?_
  refine TL.nil ?_
  refine TQ.then_n ?_
  refine T.block ?_
  refine T.loop (ι := Nat) (fun k => k ≤ x.fr.length ∧ (x.fr.take k).any (fun f => decide (s.O f.toNat > s.L i)) = false) (fun k => [(2, .int .i64 (i : Int)), (3, ptr b3), (4, ptr b4), (6, .bool false), (7, .int .i64 (k : Int))]) (fun _ => [(b4, Obj.cells (stV n d u).toArray 105 (0, 0))] :: [(b3, Obj.cells x.cells.toArray 55 (0, 0))] :: η) (fun k => x.fr.length - k) 0 ⟨Nat.zero_le _, by simp⟩ ⟨rfl, rfl, rfl, rfl, rfl, trivial⟩ rfl ?_
  rintro k ⟨hk, hany⟩
  refine T.seq ?_
  refine T.seq ?_
  refine T.region ?_
  refine TL.move hF rfl rfl ?_
  refine TL.fieldAddr hF rfl rfl ?_
  refine TL.load hF rfl (by first | exact At.own' (i := 0) rfl rfl | exact At.own' (i := 1) rfl rfl | exact At.own' (i := 2) rfl rfl | exact At.own' (i := 3) rfl rfl | exact At.own' (i := 4) rfl rfl | exact At.own' (i := 5) rfl rfl | exact At.own' (i := 6) rfl rfl | exact At.own' (i := 7) rfl rfl | exact At.own' (i := 8) rfl rfl | exact At.own' (i := 9) rfl rfl | exact At.own' (i := 10) rfl rfl | exact At.own' (i := 11) rfl rfl | exact At.own' (i := 12) rfl rfl) rfl ?_
  refine TL.len hF rfl rfl ?_
  refine TL.bin hF rfl rfl rfl rfl ?_
  refine TL.nil ?_
  refine TQ.then_n ?_
  first | refine T.cond_d rfl (fun ht12 => ?_) (fun ht12 => ?_) | refine T.cond _ rfl (fun ht12 => ?_) (fun ht12 => ?_)
  · refine T.skip ?_
    refine TQ.then_n ?_
    refine T.seq ?_
    refine T.block ?_
    refine T.seq ?_
    have hkl : k < x.fr.length := by omega
    have hfk := hin (x.fr[k]'hkl) (List.getElem_mem _)
    refine T.draw ?_
    refine DR.stepV [_] rfl [(4, _, none)] rfl rfl ⟨⟨rfl, by kernel_rfl⟩, trivial⟩ (fun ext => TL.fieldAddr hF rfl rfl TL.fin) ?_
    refine DR.stepV [_, _] rfl [(15, _, some 0)] rfl rfl ⟨⟨rfl, rfl, rfl⟩, trivial⟩ (fun ext => TL.load hF rfl (by first | exact At.own' (i := 0) rfl rfl | exact At.own' (i := 1) rfl rfl | exact At.own' (i := 2) rfl rfl | exact At.own' (i := 3) rfl rfl | exact At.own' (i := 4) rfl rfl | exact At.own' (i := 5) rfl rfl | exact At.own' (i := 6) rfl rfl | exact At.own' (i := 7) rfl rfl | exact At.own' (i := 8) rfl rfl | exact At.own' (i := 9) rfl rfl | exact At.own' (i := 10) rfl rfl | exact At.own' (i := 11) rfl rfl | exact At.own' (i := 12) rfl rfl) rfl TL.fin) ?_
    refine DR.stepV [_, _, _] rfl [(3, _, none)] rfl rfl ⟨⟨rfl, by kernel_rfl⟩, trivial⟩ (fun ext => TL.fieldAddr hF rfl rfl TL.fin) ?_
    refine DR.stepV [_, _, _, _] rfl [(17, _, some 2)] rfl rfl ⟨⟨rfl, rfl, rfl⟩, trivial⟩ (fun ext => TL.load hF rfl (by first | exact At.own' (i := 0) rfl rfl | exact At.own' (i := 1) rfl rfl | exact At.own' (i := 2) rfl rfl | exact At.own' (i := 3) rfl rfl | exact At.own' (i := 4) rfl rfl | exact At.own' (i := 5) rfl rfl | exact At.own' (i := 6) rfl rfl | exact At.own' (i := 7) rfl rfl | exact At.own' (i := 8) rfl rfl | exact At.own' (i := 9) rfl rfl | exact At.own' (i := 10) rfl rfl | exact At.own' (i := 11) rfl rfl | exact At.own' (i := 12) rfl rfl) rfl TL.fin) ?_
    refine DR.stepV [_, _, _, _, _] rfl [(7, _, none)] rfl rfl ⟨⟨rfl, by kernel_rfl⟩, trivial⟩ (fun ext => TL.move hF rfl rfl TL.fin) ?_
    refine DR.stepV [_, _, _, _, _, _] rfl [(18, _, some 3), (19, _, some 4)] rfl rfl ⟨⟨rfl, rfl, rfl⟩, ⟨rfl, rfl, rfl⟩, trivial⟩ (fun ext => TL.indexAddr hF rfl rfl (hf.adi (i := k) (by rw [List.length_map]; omega)) (by omega) (by omega) rfl TL.fin) ?_
    refine DR.stepV [_, _, _, _, _, _, _] rfl [(20, _, some 5)] rfl rfl ⟨⟨rfl, rfl, rfl⟩, trivial⟩ (fun ext => TL.load hF rfl (hf.ro.int (i := k) hkl) rfl TL.fin) ?_
    refine DR.stepV [_, _, _, _, _, _, _, _] rfl [(16, _, some 1), (21, _, some 6)] rfl rfl ⟨⟨rfl, rfl, rfl⟩, ⟨rfl, rfl, rfl⟩, trivial⟩ (fun ext => TL.indexAddr hF rfl rfl ⟨_, rfl, rfl⟩ (by omega) (by omega) rfl TL.fin) ?_
    refine DR.stepV [_, _, _, _, _, _, _, _, _] rfl [(22, _, some 7)] rfl rfl ⟨⟨rfl, rfl, rfl⟩, trivial⟩ (fun ext => TL.load hF rfl (hs.o.at (j := (x.fr[k]'hkl).toNat) (upc _ (upc _ hm.o)) (by omega)) rfl TL.fin) ?_
    refine DR.stepV [_, _, _, _, _, _, _, _, _, _] rfl [(4, _, none)] rfl rfl ⟨⟨rfl, by kernel_rfl⟩, trivial⟩ (fun ext => TL.fieldAddr hF rfl rfl TL.fin) ?_
    refine DR.stepV [_, _, _, _, _, _, _, _, _, _, _] rfl [(24, _, some 9)] rfl rfl ⟨⟨rfl, rfl, rfl⟩, trivial⟩ (fun ext => TL.load hF rfl (by first | exact At.own' (i := 0) rfl rfl | exact At.own' (i := 1) rfl rfl | exact At.own' (i := 2) rfl rfl | exact At.own' (i := 3) rfl rfl | exact At.own' (i := 4) rfl rfl | exact At.own' (i := 5) rfl rfl | exact At.own' (i := 6) rfl rfl | exact At.own' (i := 7) rfl rfl | exact At.own' (i := 8) rfl rfl | exact At.own' (i := 9) rfl rfl | exact At.own' (i := 10) rfl rfl | exact At.own' (i := 11) rfl rfl | exact At.own' (i := 12) rfl rfl) rfl TL.fin) ?_
    refine DR.stepV [_, _, _, _, _, _, _, _, _, _, _, _] rfl [(2, _, none)] rfl rfl ⟨⟨rfl, by kernel_rfl⟩, trivial⟩ (fun ext => TL.move hF rfl rfl TL.fin) ?_
    refine DR.stepV [_, _, _, _, _, _, _, _, _, _, _, _, _] rfl [(25, _, some 10), (26, _, some 11)] rfl rfl ⟨⟨rfl, rfl, rfl⟩, ⟨rfl, rfl, rfl⟩, trivial⟩ (fun ext => TL.indexAddr hF rfl rfl ⟨_, rfl, rfl⟩ (by omega) (by omega) rfl TL.fin) ?_
    refine DR.stepV [_, _, _, _, _, _, _, _, _, _, _, _, _, _] rfl [(27, _, some 12)] rfl rfl ⟨⟨rfl, rfl, rfl⟩, trivial⟩ (fun ext => TL.load hF rfl (hs.l.at (j := i) (upc _ (upc _ hm.l)) hi) rfl TL.fin) ?_
    refine DR.done [(28, _), (27, _), (26, _), (25, _), (24, _), (23, _), (22, _), (21, _), (20, _), (19, _), (18, _), (17, _), (16, _), (15, _)] [_] mixed (by kernel_rfl) (by kernel_rfl) (by kernel_rfl) rfl rfl ?_
    refine TL.bin hF rfl rfl rfl rfl ?_
    refine TL.nil ?_
    refine TQ.then_n ?_
    first | refine T.cond_d rfl (fun ht29 => ?_) (fun ht29 => ?_) | refine T.cond _ rfl (fun ht29 => ?_) (fun ht29 => ?_)
    · refine T.seq ?_
      refine T.region ?_
      refine TL.assign hF rfl rfl ?_
      refine TL.nil ?_
      refine TQ.then_n ?_
      refine T.ret ?_
      refine TQ.block_r ?_
      refine TQ.then_r ?_
      refine TQ.then_r ?_
      refine TQ.block_r ?_
      refine TQ.then_r ?_
      refine TQ.pop ?_
      refine TQ.pop ?_
      refine TQ.rets [6] _ rfl rfl rfl ?_
      have e : oldS x s i = true := by
        unfold oldS; rw [Bool.or_eq_true]; left
        exact List.any_eq_true.2 ⟨(x.fr[k]'hkl), List.getElem_mem _, by simpa using ht29⟩
      rw [e]; exact ⟨rfl, rfl⟩
    · refine T.skip ?_
      refine TQ.block_n ?_
      refine TQ.then_n ?_
      refine T.region ?_
      refine TL.move hF rfl rfl ?_
      refine TL.add hF rfl rfl (by omega) (by omega) rfl ?_
      refine TL.assign hF rfl rfl ?_
      refine TL.nil ?_
      refine TQ.round (k + 1) ⟨by omega, ?_⟩ (by omega) ⟨rfl, rfl, rfl, rfl, rfl, trivial⟩ rfl
      rw [List.take_succ_eq_append_getElem hkl, List.any_append, hany, Bool.false_or]; simp; omega
  · refine T.exit ?_
    refine TQ.then_x ?_
    refine TQ.then_x ?_
    refine TQ.block_x ?_
    refine TQ.then_n ?_
    refine T.seq ?_
    refine T.region ?_
    refine TL.fieldAddr hF rfl rfl ?_
    refine TL.load hF rfl (by first | exact At.own' (i := 0) rfl rfl | exact At.own' (i := 1) rfl rfl | exact At.own' (i := 2) rfl rfl | exact At.own' (i := 3) rfl rfl | exact At.own' (i := 4) rfl rfl | exact At.own' (i := 5) rfl rfl | exact At.own' (i := 6) rfl rfl | exact At.own' (i := 7) rfl rfl | exact At.own' (i := 8) rfl rfl | exact At.own' (i := 9) rfl rfl | exact At.own' (i := 10) rfl rfl | exact At.own' (i := 11) rfl rfl | exact At.own' (i := 12) rfl rfl) rfl ?_
    refine TL.move hF rfl rfl ?_
    refine TL.indexAddr hF rfl rfl ⟨_, rfl, rfl⟩ (by omega) (by omega) rfl ?_
    refine TL.load hF rfl (hs.l.at (j := i) (upc _ (upc _ hm.l)) hi) rfl ?_
    refine TL.bin hF rfl rfl rfl rfl ?_
    refine TL.assign hF rfl rfl ?_
    refine TL.nil ?_
    refine TQ.then_n ?_
    refine T.ret ?_
    refine TQ.pop ?_
    refine TQ.pop ?_
    refine TQ.rets [6] _ rfl rfl rfl ?_
    rw [List.take_of_length_le (by omega)] at hany
    have e : oldS x s i = decide (s.L i < 0) := by unfold oldS; rw [hany, Bool.false_or]
    rw [e]; exact ⟨rfl, rfl⟩
set_option maxHeartbeats 2000000 in
theorem ready_ref {a : Option Addr} {l : List NodeD} {c : Nat} {d : SD} {s : St} {u now wb : Nat} {want : Nat → Bool} (hn : Nodes S w0 [] a l) (hok : Ok l) (hs : SOk l.length d s) (hm : SIn η d) (hw : bseg wb l.length want ∈ η) :
    Rt Tryd.prog 66 [.slice a l.length c, .slice (some ⟨wb, 0, none⟩) l.length l.length, .agg (stV l.length d u).toArray, .int .i64 (now : Int)].toArray S w0 η (fun v η' => ∃ a cap seg, v = .slice a (readyS l want s now).length cap ∧ η' = seg :: η ∧ OSl 3 1 (.slice a (readyS l want s now).length cap) (readyS l want s now).length (nats (readyS l want s now)) seg) := by
  have hF := open_wide
  refine Rt.of (fn := Tryd.f66) Tryd.func66 rfl rfl ?_
  refine T.seq ?_
  refine T.region ?_
  refine TL.box hF rfl rfl (fun b6 => ?_)
  refine TL.assign hF rfl rfl ?_
  refine TL.nil ?_
  refine TQ.then_n ?_
  refine T.seq ?_
  refine T.region ?_
  refine TL.assign hF rfl rfl ?_
  refine TL.nil ?_
  refine TQ.then_n ?_
  refine T.seq ?_
  refine T.seq ?_
  refine T.region ?_
  refine TL.assign hF rfl rfl ?_
  refine TL.nil ?_
  refine TQ.then_n ?_
  refine T.block ?_
  have hlen := hok.len
  refine T.hnil ?_
  refine T.loop (ι := Nat × Option Addr × Nat × Seg) (fun i => i.1 ≤ l.length ∧ OSl 3 1 (.slice i.2.1 ((List.range i.1).filter (rdyB l want s now)).length i.2.2.1) ((List.range i.1).filter (rdyB l want s now)).length (nats ((List.range i.1).filter (rdyB l want s now))) i.2.2.2) (fun i => [(0, .slice a l.length c), (1, .slice (some ⟨wb, 0, none⟩) l.length l.length), (3, .int .i64 (now : Int)), (6, ptr b6), (8, .slice none 0 0), (9, .slice i.2.1 ((List.range i.1).filter (rdyB l want s now)).length i.2.2.1), (10, .int .i64 (i.1 : Int))]) (fun i => i.2.2.2 :: [(b6, Obj.cells (stV l.length d u).toArray 105 (0, 0))] :: η) (fun i => l.length - i.1) (0, none, 0, []) ⟨Nat.zero_le _, OSl.nil 3 1⟩ ⟨rfl, rfl, rfl, rfl, rfl, rfl, rfl, trivial⟩ rfl ?_
  rintro ⟨k, oa, oc, og⟩ ⟨hk, ho⟩
  simp only at hk ho
  have hrl : ((List.range k).filter (rdyB l want s now)).length ≤ k := by have := List.length_filter_le (rdyB l want s now) (List.range k); rw [List.length_range] at this; exact this
  refine T.seq ?_
  refine T.seq ?_
  refine T.region ?_
  refine TL.move hF rfl rfl ?_
  refine TL.move hF rfl rfl ?_
  refine TL.len hF rfl rfl ?_
  refine TL.bin hF rfl rfl rfl rfl ?_
  refine TL.nil ?_
  refine TQ.then_n ?_
  first | refine T.cond_d rfl (fun ht17 => ?_) (fun ht17 => ?_) | refine T.cond _ rfl (fun ht17 => ?_) (fun ht17 => ?_)
  · refine T.skip ?_
    refine TQ.then_n ?_
    refine T.seq ?_
    refine T.block ?_
    have hkl : k < l.length := by omega
    have hrow := hn.frow hkl
    have hfr := hok.fr k hkl
    have hfew := hok.few k hkl
    rw [← nd_eq hkl] at hrow hfr hfew
    refine T.cut (ι := Unit) (fun _ => True) (fun _ => [(0, .slice a l.length c), (1, .slice (some ⟨wb, 0, none⟩) l.length l.length), (3, .int .i64 (now : Int)), (6, ptr b6), (8, .slice none 0 0), (9, .slice oa ((List.range k).filter (rdyB l want s now)).length oc), (10, .int .i64 (k : Int)), (11, .bool (want k && decide (s.L k < now)))]) (fun _ => og :: [(b6, Obj.cells (stV l.length d u).toArray 105 (0, 0))] :: η) ?_ ?_
    · refine T.region ?_
      refine TL.move hF rfl rfl ?_
      refine TL.move hF rfl rfl ?_
      refine TL.indexAddr hF rfl rfl ⟨_, rfl, rfl⟩ (by omega) (by omega) rfl ?_
      refine TL.load hF rfl (bseg_at (f := want) (n := l.length) (b := wb) (j := k) (upc _ (upc _ hw)) hkl) rfl ?_
      refine TL.move hF rfl rfl ?_
      refine TL.gb (t := 24) rfl (fun g5_24 => ?_) (fun g5_24 => ?_)
      · refine TL.on rfl rfl rfl g5_24 ?_
        refine TL.fieldAddr hF rfl rfl ?_
        refine TL.on rfl rfl rfl g5_24 ?_
        refine TL.load hF rfl (by first | exact At.own' (i := 0) rfl rfl | exact At.own' (i := 1) rfl rfl | exact At.own' (i := 2) rfl rfl | exact At.own' (i := 3) rfl rfl | exact At.own' (i := 4) rfl rfl | exact At.own' (i := 5) rfl rfl | exact At.own' (i := 6) rfl rfl | exact At.own' (i := 7) rfl rfl | exact At.own' (i := 8) rfl rfl | exact At.own' (i := 9) rfl rfl | exact At.own' (i := 10) rfl rfl | exact At.own' (i := 11) rfl rfl | exact At.own' (i := 12) rfl rfl) rfl ?_
        refine TL.on rfl rfl rfl g5_24 ?_
        refine TL.move hF rfl rfl ?_
        refine TL.on rfl rfl rfl g5_24 ?_
        refine TL.indexAddr hF rfl rfl ⟨_, rfl, rfl⟩ (by omega) (by omega) rfl ?_
        refine TL.on rfl rfl rfl g5_24 ?_
        refine TL.load hF rfl (hs.l.at (j := k) (upc _ (upc _ hm.l)) hkl) rfl ?_
        refine TL.on rfl rfl rfl g5_24 ?_
        refine TL.move hF rfl rfl ?_
        refine TL.on rfl rfl rfl g5_24 ?_
        refine TL.bin hF rfl rfl rfl rfl ?_
        refine TL.pickT hF rfl g5_24 rfl rfl ?_
        refine TL.assign hF rfl rfl ?_
        refine TL.nil ?_
        exact TQ.cut () trivial ⟨rfl, rfl, rfl, rfl, rfl, rfl, rfl, congrArg (fun z => some (Value.bool z)) (by rw [g5_24, Bool.true_and]), trivial⟩ rfl
      · refine TL.off hF rfl rfl rfl g5_24 rfl ?_
        refine TL.off hF rfl rfl rfl g5_24 rfl ?_
        refine TL.off hF rfl rfl rfl g5_24 rfl ?_
        refine TL.off hF rfl rfl rfl g5_24 rfl ?_
        refine TL.off hF rfl rfl rfl g5_24 rfl ?_
        refine TL.off hF rfl rfl rfl g5_24 rfl ?_
        refine TL.off hF rfl rfl rfl g5_24 rfl ?_
        refine TL.pickF hF rfl g5_24 rfl rfl ?_
        refine TL.assign hF rfl rfl ?_
        refine TL.nil ?_
        exact TQ.cut () trivial ⟨rfl, rfl, rfl, rfl, rfl, rfl, rfl, congrArg (fun z => some (Value.bool z)) (by rw [g5_24]; rfl), trivial⟩ rfl
    · intro _ _
      refine T.seq ?_
      refine T.seq ?_
      refine T.region ?_
      refine TL.assign hF rfl rfl ?_
      refine TL.nil ?_
      refine TQ.then_n ?_
      refine T.block ?_
      refine T.loop (ι := Nat) (fun j => j ≤ (nd l k).fr.length) (fun j => [(0, .slice a l.length c), (1, .slice (some ⟨wb, 0, none⟩) l.length l.length), (3, .int .i64 (now : Int)), (6, ptr b6), (8, .slice none 0 0), (9, .slice oa ((List.range k).filter (rdyB l want s now)).length oc), (10, .int .i64 (k : Int)), (11, .bool ((want k && decide (s.L k < now)) && ((nd l k).fr.take j).all (freeB l s now))), (12, .int .i64 (j : Int))]) (fun _ => og :: [(b6, Obj.cells (stV l.length d u).toArray 105 (0, 0))] :: η) (fun j => (nd l k).fr.length - j) 0 (Nat.zero_le _) ⟨rfl, rfl, rfl, rfl, rfl, rfl, rfl, congrArg (fun z => some (Value.bool z)) (by simp), rfl, trivial⟩ rfl ?_
      intro j hj
      refine T.seq ?_
      refine T.seq ?_
      refine T.region ?_
      refine TL.move hF rfl rfl ?_
      refine TL.move hF rfl rfl ?_
      refine TL.move hF rfl rfl ?_
      refine TL.indexAddr hF rfl rfl (hn.ad (i := k) hkl) (by omega) (by omega) rfl ?_
      refine TL.fieldAddr hF rfl rfl ?_
      refine TL.load hF rfl (v := .slice (nd l k).fa (nd l k).fr.length (nd l k).fc) (by rw [nd_eq hkl]; exact hn.ro.at (i := k) hkl 2 rfl) rfl ?_
      refine TL.len hF rfl rfl ?_
      refine TL.bin hF rfl rfl rfl rfl ?_
      refine TL.nil ?_
      refine TQ.then_n ?_
      first | refine T.cond_d rfl (fun ht40 => ?_) (fun ht40 => ?_) | refine T.cond _ rfl (fun ht40 => ?_) (fun ht40 => ?_)
      · refine T.skip ?_
        refine TQ.then_n ?_
        refine T.seq ?_
        refine T.block ?_
        refine T.seq ?_
        refine T.region ?_
        refine TL.move hF rfl rfl ?_
        refine TL.move hF rfl rfl ?_
        refine TL.indexAddr hF rfl rfl (hn.ad (i := k) hkl) (by omega) (by omega) rfl ?_
        refine TL.fieldAddr hF rfl rfl ?_
        refine TL.load hF rfl (v := .slice (nd l k).fa (nd l k).fr.length (nd l k).fc) (by rw [nd_eq hkl]; exact hn.ro.at (i := k) hkl 2 rfl) rfl ?_
        refine TL.move hF rfl rfl ?_
        refine TL.indexAddr hF rfl rfl (hrow.adi (i := j) (by rw [List.length_map]; omega)) (by omega) (by omega) rfl ?_
        refine TL.load hF rfl (hrow.ro.int (i := j) (by omega)) rfl ?_
        refine TL.assign hF rfl rfl ?_
        refine TL.nil ?_
        refine TQ.then_n ?_
        refine T.region ?_
        have hjl : j < (nd l k).fr.length := by omega
        have hf := hfr ((nd l k).fr[j]'hjl) (List.getElem_mem _)
        have hsucc : ((nd l k).fr.take (j + 1)).all (freeB l s now) = (((nd l k).fr.take j).all (freeB l s now) && freeB l s now ((nd l k).fr[j]'hjl)) := by rw [List.take_succ_eq_append_getElem hjl, List.all_append]; simp
        refine TL.move hF rfl rfl ?_
        refine TL.move hF rfl rfl ?_
        refine TL.gb (t := 52) rfl (fun g10_52 => ?_) (fun g10_52 => ?_)
        · refine TL.on rfl rfl rfl g10_52 ?_
          refine TL.move hF rfl rfl ?_
          refine TL.on rfl rfl rfl g10_52 ?_
          refine TL.move hF rfl rfl ?_
          refine TL.on rfl rfl rfl g10_52 ?_
          refine TL.indexAddr hF rfl rfl (hn.ad (i := ((nd l k).fr[j]'hjl).toNat) (by omega)) (by omega) (by omega) rfl ?_
          refine TL.on rfl rfl rfl g10_52 ?_
          refine TL.fieldAddr hF rfl rfl ?_
          refine TL.on rfl rfl rfl g10_52 ?_
          refine TL.load hF rfl (v := .int .i64 (nd l ((nd l k).fr[j]'hjl).toNat).op) (by rw [nd_eq (l := l) (i := ((nd l k).fr[j]'hjl).toNat) (by omega)]; exact hn.ro.at (i := ((nd l k).fr[j]'hjl).toNat) (by omega) 0 rfl) rfl ?_
          refine TL.on rfl rfl rfl g10_52 ?_
          refine TL.bin hF rfl rfl rfl rfl ?_
          refine TL.on rfl rfl rfl g10_52 ?_
          refine TL.move hF rfl rfl ?_
          refine TL.gd (t := 59) rfl (fun g10_59 => ?_) (fun g10_59 => ?_)
          · refine TL.off hF rfl rfl rfl (decide_eq_true g10_59) rfl ?_
            refine TL.off hF rfl rfl rfl (decide_eq_true g10_59) rfl ?_
            refine TL.off hF rfl rfl rfl (decide_eq_true g10_59) rfl ?_
            refine TL.off hF rfl rfl rfl (decide_eq_true g10_59) rfl ?_
            refine TL.off hF rfl rfl rfl (decide_eq_true g10_59) rfl ?_
            refine TL.off hF rfl rfl rfl (decide_eq_true g10_59) rfl ?_
            refine TL.off hF rfl rfl rfl (decide_eq_true g10_59) rfl ?_
            refine TL.on rfl rfl rfl g10_52 ?_
            refine TL.pickT hF rfl (decide_eq_true g10_59) rfl rfl ?_
            refine TL.pickT hF rfl g10_52 rfl rfl ?_
            refine TL.assign hF rfl rfl ?_
            refine TL.nil ?_
            refine TQ.block_n ?_
            refine TQ.then_n ?_
            refine T.region ?_
            refine TL.move hF rfl rfl ?_
            refine TL.add hF rfl rfl (by omega) (by omega) rfl ?_
            refine TL.assign hF rfl rfl ?_
            refine TL.nil ?_
            refine TQ.round (j + 1) (by omega) (by omega) ⟨rfl, rfl, rfl, rfl, rfl, rfl, rfl, congrArg (fun z => some (Value.bool z)) ?_, rfl, trivial⟩ rfl
            rw [hsucc, ← Bool.and_assoc, g10_52]; unfold freeB; rw [decide_eq_true g10_59]; rfl
          · refine TL.on rfl rfl rfl (decide_eq_false g10_59) ?_
            refine TL.fieldAddr hF rfl rfl ?_
            refine TL.on rfl rfl rfl (decide_eq_false g10_59) ?_
            refine TL.load hF rfl (by first | exact At.own' (i := 0) rfl rfl | exact At.own' (i := 1) rfl rfl | exact At.own' (i := 2) rfl rfl | exact At.own' (i := 3) rfl rfl | exact At.own' (i := 4) rfl rfl | exact At.own' (i := 5) rfl rfl | exact At.own' (i := 6) rfl rfl | exact At.own' (i := 7) rfl rfl | exact At.own' (i := 8) rfl rfl | exact At.own' (i := 9) rfl rfl | exact At.own' (i := 10) rfl rfl | exact At.own' (i := 11) rfl rfl | exact At.own' (i := 12) rfl rfl) rfl ?_
            refine TL.on rfl rfl rfl (decide_eq_false g10_59) ?_
            refine TL.move hF rfl rfl ?_
            refine TL.on rfl rfl rfl (decide_eq_false g10_59) ?_
            refine TL.indexAddr hF rfl rfl ⟨_, rfl, rfl⟩ (by omega) (by omega) rfl ?_
            refine TL.on rfl rfl rfl (decide_eq_false g10_59) ?_
            refine TL.load hF rfl (hs.l.at (j := ((nd l k).fr[j]'hjl).toNat) (upc _ (upc _ hm.l)) (by omega)) rfl ?_
            refine TL.on rfl rfl rfl (decide_eq_false g10_59) ?_
            refine TL.move hF rfl rfl ?_
            refine TL.on rfl rfl rfl (decide_eq_false g10_59) ?_
            refine TL.bin hF rfl rfl rfl rfl ?_
            refine TL.on rfl rfl rfl g10_52 ?_
            refine TL.pickF hF rfl (decide_eq_false g10_59) rfl rfl ?_
            refine TL.pickT hF rfl g10_52 rfl rfl ?_
            refine TL.assign hF rfl rfl ?_
            refine TL.nil ?_
            refine TQ.block_n ?_
            refine TQ.then_n ?_
            refine T.region ?_
            refine TL.move hF rfl rfl ?_
            refine TL.add hF rfl rfl (by omega) (by omega) rfl ?_
            refine TL.assign hF rfl rfl ?_
            refine TL.nil ?_
            refine TQ.round (j + 1) (by omega) (by omega) ⟨rfl, rfl, rfl, rfl, rfl, rfl, rfl, congrArg (fun z => some (Value.bool z)) ?_, rfl, trivial⟩ rfl
            rw [hsucc, ← Bool.and_assoc, g10_52]; unfold freeB; rw [decide_eq_false g10_59]; rfl
        · refine TL.off hF rfl rfl rfl g10_52 rfl ?_
          refine TL.off hF rfl rfl rfl g10_52 rfl ?_
          refine TL.off hF rfl rfl rfl g10_52 rfl ?_
          refine TL.off hF rfl rfl rfl g10_52 rfl ?_
          refine TL.off hF rfl rfl rfl g10_52 rfl ?_
          refine TL.off hF rfl rfl rfl g10_52 rfl ?_
          refine TL.off hF rfl rfl rfl g10_52 rfl ?_
          refine TL.offU hF rfl rfl rfl rfl ?_
          refine TL.offU hF rfl rfl rfl rfl ?_
          refine TL.offU hF rfl rfl rfl rfl ?_
          refine TL.offU hF rfl rfl rfl rfl ?_
          refine TL.offU hF rfl rfl rfl rfl ?_
          refine TL.offU hF rfl rfl rfl rfl ?_
          refine TL.offU hF rfl rfl rfl rfl ?_
          refine TL.off hF rfl rfl rfl g10_52 rfl ?_
          refine TL.pickF hF rfl g10_52 rfl rfl ?_
          refine TL.assign hF rfl rfl ?_
          refine TL.nil ?_
          refine TQ.block_n ?_
          refine TQ.then_n ?_
          refine T.region ?_
          refine TL.move hF rfl rfl ?_
          refine TL.add hF rfl rfl (by omega) (by omega) rfl ?_
          refine TL.assign hF rfl rfl ?_
          refine TL.nil ?_
          refine TQ.round (j + 1) (by omega) (by omega) ⟨rfl, rfl, rfl, rfl, rfl, rfl, rfl, congrArg (fun z => some (Value.bool z)) ?_, rfl, trivial⟩ rfl
          rw [hsucc, ← Bool.and_assoc, g10_52]; rfl
      · refine T.exit ?_
        refine TQ.then_x ?_
        refine TQ.then_x ?_
        refine TQ.block_x ?_
        refine TQ.then_n ?_
        refine T.seq ?_
        refine T.region ?_
        refine TL.move hF rfl rfl ?_
        refine TL.nil ?_
        refine TQ.then_n ?_
        have hrd : ((want k && decide (s.L k < now)) && ((nd l k).fr.take j).all (freeB l s now)) = (rdyB l want s now) k := by
          rw [List.take_of_length_le (by omega)]; unfold rdyB freeS freeB; rfl
        rw [hrd]
        refine T.cond _ rfl (fun hb => ?_) (fun hb => ?_)
        · refine T.region ?_
          refine TL.move hF rfl rfl ?_
          refine TL.move hF rfl rfl ?_
          refine TL.buildSlice hF rfl (cs := #[.int .i64 (k : Int)]) (e := 3) (fun w => by kernel_rfl) rfl (fun b72 => ?_)
          refine TL.append hF 1 rfl rfl rfl ho (row_own (cs := [.int .i64 (k : Int)]) (e := 3) List.mem_cons_self).src rfl rfl (by simp [Value.oneCell']) (by omega) (by omega) rfl (fun a' cap' seg' ho' => ?_)
          refine TL.assign hF rfl rfl ?_
          refine TL.nil ?_
          refine TQ.block_n ?_
          refine TQ.then_n ?_
          refine T.region ?_
          refine TL.move hF rfl rfl ?_
          refine TL.add hF rfl rfl (by omega) (by omega) rfl ?_
          refine TL.assign hF rfl rfl ?_
          refine TL.nil ?_
          refine TQ.pop ?_
          have e : (List.range (k + 1)).filter (rdyB l want s now) = ((List.range k).filter (rdyB l want s now)) ++ [k] := by rw [List.range_succ, List.filter_append, List.filter_cons, hb]; rfl
          have e1 : ((List.range k).filter (rdyB l want s now)).length + 1 = ((List.range (k + 1)).filter (rdyB l want s now)).length := by rw [e]; simp
          refine TQ.round (k + 1, a', cap', seg') ⟨by simp only; omega, ?_⟩ (by simp only; omega) ⟨rfl, rfl, rfl, rfl, rfl, congrArg (fun z => some (Value.slice a' z cap')) e1, rfl, trivial⟩ rfl
          simp only
          rw [← e1, e, nats, List.map_append]; exact ho'
        · refine T.skip ?_
          refine TQ.block_n ?_
          refine TQ.then_n ?_
          refine T.region ?_
          refine TL.move hF rfl rfl ?_
          refine TL.add hF rfl rfl (by omega) (by omega) rfl ?_
          refine TL.assign hF rfl rfl ?_
          refine TL.nil ?_
          have e : (List.range (k + 1)).filter (rdyB l want s now) = ((List.range k).filter (rdyB l want s now)) := by rw [List.range_succ, List.filter_append, List.filter_cons, hb]; simp
          refine TQ.round (k + 1, oa, oc, og) ⟨by simp only; omega, by simp only; rw [e]; exact ho⟩ (by simp only; omega) ⟨rfl, rfl, rfl, rfl, rfl, congrArg (fun z : List Nat => some (Value.slice oa z.length oc)) e.symm, rfl, trivial⟩ rfl
  · refine T.exit ?_
    refine TQ.then_x ?_
    refine TQ.then_x ?_
    refine TQ.block_x ?_
    refine TQ.then_n ?_
    refine T.seq ?_
    refine T.region ?_
    refine TL.move hF rfl rfl ?_
    refine TL.assign hF rfl rfl ?_
    refine TL.nil ?_
    refine TQ.then_n ?_
    refine T.ret ?_
    have hkn : k = l.length := by omega
    subst hkn
    refine TQ.hsub (og :: η) (List.Sublist.cons_cons _ (List.sublist_cons_self _ _)) ?_
    refine TQ.rets [8] _ rfl rfl rfl ?_
    exact ⟨oa, oc, og, rfl, rfl, ho⟩
end Go.Proofs.YtefkmiomldhmjaaDoor
/- An instant, by the reference. -/
namespace Go.Proofs.YtefkmiomldhmjaaDoor
open Go.Sl
variable {S : Nat → Prop} {w0 : World} {η : Heap}
theorem setsF_range : ∀ {sets : List SetD} {W : Nat → Int}, (∀ x ∈ sets, -2147483648 ≤ x.word ∧ x.word ≤ 2147483647) → (∀ j, -2147483648 ≤ W j ∧ W j ≤ 2147483647) → ∀ j, -2147483648 ≤ setsF W sets j ∧ setsF W sets j ≤ 2147483647
  | [], _, _, h, j => h j
  | x :: r, W, hx, h, j => setsF_range (sets := r) (W := upd W x.node.toNat x.word) (fun y hy => hx y (List.mem_cons_of_mem _ hy)) (fun i => by
      unfold upd; split
      · exact hx x List.mem_cons_self
      · exact h i) j
theorem lookS_range {l : List NodeD} (hok : Ok l) {s : St} {now i : Nat} (hi : i < l.length) (h0 : (nd l i).op ≠ 0) (h : ∀ j, -2147483648 ≤ s.W j ∧ s.W j ≤ 2147483647) : ∀ j, -2147483648 ≤ (lookS l now s i).W j ∧ (lookS l now s i).W j ≤ 2147483647 := by
  intro j
  unfold lookS; split
  · simp only [upd]; split
    · rw [nd_eq hi] at h0 ⊢
      exact comp_range (fun f _ => h f.toNat) (hok.word i hi) (fun h1 h2 => hok.mod i hi (by have := hok.op0 i hi; have := hok.op3 i hi; omega))
    · exact h j
  · exact h j
structure IS where
  d : SD
  s : St
  acc : List DoneD
  cnt : Nat
  f : Nat
  oa : Option Addr
  oc : Nat
  og : Seg
  ra : Option Addr
  rc : Nat
  rg : Seg
structure IOk (l : List NodeD) (want : Nat → Bool) (now : Nat) (pick : List Int) (s0 : St) (i : IS) : Prop where
  s : SOk l.length i.d i.s
  spec : runI l want now pick l.length s0 = (i.acc ++ (runI l want now pick i.f i.s).1, i.cnt + (runI l want now pick i.f i.s).2.1, (runI l want now pick i.f i.s).2.2)
  fuel : i.f + i.cnt = l.length
  un : unl l i.s now ≤ i.f
  L : ∀ j, j < l.length → i.s.L j ≤ now
  used : i.s.used = s0.used + i.cnt
  word : ∀ j, -2147483648 ≤ i.s.W j ∧ i.s.W j ≤ 2147483647
  dn : i.acc.length ≤ i.cnt
  out : OSl 53 4 (.slice i.oa i.acc.length i.oc) i.acc.length (i.acc.flatMap DoneD.cells) i.og
  rdy : OSl 3 1 (.slice i.ra (readyS l want i.s now).length i.rc) (readyS l want i.s now).length (nats (readyS l want i.s now)) i.rg
theorem IOk.step {l : List NodeD} {want : Nat → Bool} {now : Nat} {pick : List Int} {s0 : St} {i : IS} (hok : Ok l) (hwant : ∀ j, want j = true → (nd l j).op ≠ 0) (h : IOk l want now pick s0 i) (hr : (readyS l want i.s now).length ≠ 0) {j : Nat} (hj : nextS pick i.s (readyS l want i.s now) = j)
    {d : SD} (hd : SOk l.length d (lookS l now i.s j)) {oa : Option Addr} {oc : Nat} {og : Seg} (ho : OSl 53 4 (.slice oa (i.acc ++ doneS l now i.s j).length oc) (i.acc ++ doneS l now i.s j).length ((i.acc ++ doneS l now i.s j).flatMap DoneD.cells) og)
    {ra : Option Addr} {rc : Nat} {rg : Seg} (hro : OSl 3 1 (.slice ra (readyS l want (lookS l now i.s j) now).length rc) (readyS l want (lookS l now i.s j) now).length (nats (readyS l want (lookS l now i.s j) now)) rg) :
    IOk l want now pick s0 ⟨d, lookS l now i.s j, i.acc ++ doneS l now i.s j, i.cnt + 1, i.f - 1, oa, oc, og, ra, rc, rg⟩ := by
  have hu := ready_unl hr
  have hun := h.un
  have hfu := h.fuel
  have hdn := h.dn
  have hd1 := doneS_len l now i.s j
  have hjm : j ∈ readyS l want i.s now := hj ▸ nextS_mem hr
  obtain ⟨hjl, hjr⟩ := ready_mem'.1 hjm
  have hjL := (rdy_iff.1 hjr).2.1
  have hul := unl_look (now := now) hjl hjL
  obtain ⟨f', hf'⟩ : ∃ f', i.f = f' + 1 := ⟨i.f - 1, by omega⟩
  have hs := h.spec
  rw [hf', runI_go hr, hj] at hs
  refine ⟨hd, ?_, by simp only; omega, by simp only; omega, fun q hq => ?_, ?_, lookS_range hok hjl (hwant j (rdy_iff.1 hjr).1) h.word, ?_, ho, hro⟩
  · simp only
    rw [hf', Nat.add_sub_cancel, hs, List.append_assoc]
    simp only [Prod.mk.injEq, true_and, and_true]
    omega
  · simp only; rw [lookS_L]; unfold upd; split
    · omega
    · exact h.L q hq
  · simp only; rw [lookS_used, h.used]; omega
  · simp only [List.length_append] at hdn ⊢; omega

set_option maxHeartbeats 2000000 in
theorem Instant_fn {a : Option Addr} {l : List NodeD} {c : Nat} {x : InstD} {now : Nat} {sa : Option Addr} {pick : List Int} {sc : Nat} {d : SD} {s : St} (hn : Nodes S w0 [] a l) (hok : Ok l) (hsr : Row S w0 [] x.sa (x.sets.flatMap SetD.cells)) (har : Row S w0 [] x.aa (ints x.asks)) (hp : Row S w0 [] sa (ints pick)) (hpl : pick.length ≤ 200) (hpk : ∀ p ∈ pick, 0 ≤ p) (hio : instE l x = 0) (hs : SOk l.length d s) (hL : ∀ j, j < l.length → s.L j < now) (hu : s.used ≤ 100000) (hW : ∀ j, -2147483648 ≤ s.W j ∧ s.W j ≤ 2147483647) :
    Rt Tryd.prog 58 [.slice a l.length c, .agg x.cells.toArray, .int .i64 (now : Int), .slice sa pick.length sc, .agg (stV l.length d s.used).toArray].toArray S w0 (stH d η) (fun v η' => ∃ i : IS, IOk l (wantS l x.asks) now pick (afterSets x now s) i ∧ instS l x now pick s = (i.acc, i.cnt, i.s) ∧ v = .tuple #[.slice i.oa i.acc.length i.oc, .int .i64 (i.cnt : Int), .agg (stV l.length i.d i.s.used).toArray] ∧ η' = i.og :: stH i.d η) := by
  have hF := open_wide
  refine Rt.of (fn := Tryd.f58) Tryd.func58 rfl rfl ?_
  refine T.seq ?_
  refine T.region ?_
  refine TL.box hF rfl rfl (fun b6 => ?_)
  refine TL.box hF rfl rfl (fun b9 => ?_)
  refine TL.assign hF rfl rfl ?_
  refine TL.assign hF rfl rfl ?_
  refine TL.alloc hF rfl (fun b12 => ?_)
  refine TL.nil ?_
  refine TQ.then_n ?_
  refine T.seq ?_
  refine T.region ?_
  have hlen := hok.len
  have hpos := hok.pos
  obtain ⟨hxs, hxa, hso, hao⟩ := instE_ok hio
  refine TL.buildSlice hF rfl (cs := #[]) (e := 3) (fun w => by kernel_rfl) rfl (fun b24 => ?_)
  refine TL.fieldAddr hF rfl rfl ?_
  refine TL.load hF rfl (by first | exact At.own' (i := 0) rfl rfl | exact At.own' (i := 1) rfl rfl | exact At.own' (i := 2) rfl rfl | exact At.own' (i := 3) rfl rfl | exact At.own' (i := 4) rfl rfl | exact At.own' (i := 5) rfl rfl | exact At.own' (i := 6) rfl rfl | exact At.own' (i := 7) rfl rfl | exact At.own' (i := 8) rfl rfl | exact At.own' (i := 9) rfl rfl | exact At.own' (i := 10) rfl rfl | exact At.own' (i := 11) rfl rfl | exact At.own' (i := 12) rfl rfl) rfl ?_
  refine TL.append hF 0 rfl rfl rfl (osl_fresh (e := 3) (sz := 1) (n := 0) (xs := []) rfl) (hs.w.row (by simp)).src rfl (by simp [intC_len]) (intC1 _ _) (by omega) (by omega) rfl (fun a' c13 seg' ho' => ?_)
  simp only [List.nil_append, Nat.zero_add] at ho' ⊢
  refine TL.assign hF rfl rfl ?_
  refine TL.nil ?_
  refine TQ.then_n ?_
  refine T.seq ?_
  refine T.seq ?_
  refine T.region ?_
  refine TL.assign hF rfl rfl ?_
  refine TL.nil ?_
  refine TQ.then_n ?_
  refine T.block ?_
  obtain ⟨b13, u13, rfl, rfl, hb⟩ := OIs.of ho' (by omega)
  refine T.loop (ι := Nat × Array Value) (fun i => i.1 ≤ x.sets.length ∧ OIs d.wb d.wc l.length (setsF s.W (x.sets.take i.1)) i.2) (fun i => [(0, .slice a l.length c), (2, .int .i64 (now : Int)), (3, .slice sa pick.length sc), (9, ptr b9), (10, .slice none 0 0), (11, .int .i64 0), (12, ptr b12), (6, ptr b6), (13, .slice (some ⟨b13, 0, none⟩) l.length c13), (14, .int .i64 (i.1 : Int))]) (fun i => cseg b13 u13 :: [(b12, Obj.cells #[.slice none 0 0, .slice none 0 0, .slice none 0 0, .int .i64 0] 105 (0, 0))] :: [(b9, Obj.cells (stV l.length d (s.used)).toArray 105 (0, 0))] :: [(b6, Obj.cells x.cells.toArray 50 (0, 0))] :: cseg d.wb i.2 :: cseg d.ob d.ou :: cseg d.lb d.lu :: η) (fun i => x.sets.length - i.1) (0, d.wu) ⟨Nat.zero_le _, hs.w⟩ ⟨rfl, rfl, rfl, rfl, rfl, rfl, rfl, rfl, rfl, rfl, trivial⟩ rfl ?_
  rintro ⟨k, wu⟩ ⟨hk, hw⟩
  simp only at hk hw
  refine T.seq ?_
  refine T.seq ?_
  refine T.region ?_
  refine TL.move hF rfl rfl ?_
  refine TL.fieldAddr hF rfl rfl ?_
  refine TL.load hF rfl (by first | exact At.own' (i := 0) rfl rfl | exact At.own' (i := 1) rfl rfl | exact At.own' (i := 2) rfl rfl | exact At.own' (i := 3) rfl rfl | exact At.own' (i := 4) rfl rfl | exact At.own' (i := 5) rfl rfl | exact At.own' (i := 6) rfl rfl | exact At.own' (i := 7) rfl rfl | exact At.own' (i := 8) rfl rfl | exact At.own' (i := 9) rfl rfl | exact At.own' (i := 10) rfl rfl | exact At.own' (i := 11) rfl rfl | exact At.own' (i := 12) rfl rfl) rfl ?_
  refine TL.len hF rfl rfl ?_
  refine TL.bin hF rfl rfl rfl rfl ?_
  refine TL.nil ?_
  refine TQ.then_n ?_
  first | refine T.cond_d rfl (fun ht32 => ?_) (fun ht32 => ?_) | refine T.cond _ rfl (fun ht32 => ?_) (fun ht32 => ?_)
  · refine T.skip ?_
    refine TQ.then_n ?_
    refine T.seq ?_
    refine T.block ?_
    have hkl : k < x.sets.length := by omega
    have hset := setsOk_get hso (List.getElem_mem hkl)
    refine T.draw ?_
    refine DR.stepV [_] rfl [(9, _, none)] rfl rfl ⟨⟨rfl, by kernel_rfl⟩, trivial⟩ (fun ext => TL.fieldAddr hF rfl rfl TL.fin) ?_
    refine DR.stepV [_, _] rfl [(35, _, some 0)] rfl rfl ⟨⟨rfl, rfl, rfl⟩, trivial⟩ (fun ext => TL.load hF rfl (by first | exact At.own' (i := 0) rfl rfl | exact At.own' (i := 1) rfl rfl | exact At.own' (i := 2) rfl rfl | exact At.own' (i := 3) rfl rfl | exact At.own' (i := 4) rfl rfl | exact At.own' (i := 5) rfl rfl | exact At.own' (i := 6) rfl rfl | exact At.own' (i := 7) rfl rfl | exact At.own' (i := 8) rfl rfl | exact At.own' (i := 9) rfl rfl | exact At.own' (i := 10) rfl rfl | exact At.own' (i := 11) rfl rfl | exact At.own' (i := 12) rfl rfl) rfl TL.fin) ?_
    refine DR.stepV [_, _, _] rfl [(6, _, none)] rfl rfl ⟨⟨rfl, by kernel_rfl⟩, trivial⟩ (fun ext => TL.fieldAddr hF rfl rfl TL.fin) ?_
    refine DR.stepV [_, _, _, _] rfl [(37, _, some 2)] rfl rfl ⟨⟨rfl, rfl, rfl⟩, trivial⟩ (fun ext => TL.load hF rfl (by first | exact At.own' (i := 0) rfl rfl | exact At.own' (i := 1) rfl rfl | exact At.own' (i := 2) rfl rfl | exact At.own' (i := 3) rfl rfl | exact At.own' (i := 4) rfl rfl | exact At.own' (i := 5) rfl rfl | exact At.own' (i := 6) rfl rfl | exact At.own' (i := 7) rfl rfl | exact At.own' (i := 8) rfl rfl | exact At.own' (i := 9) rfl rfl | exact At.own' (i := 10) rfl rfl | exact At.own' (i := 11) rfl rfl | exact At.own' (i := 12) rfl rfl) rfl TL.fin) ?_
    refine DR.stepV [_, _, _, _, _] rfl [(14, _, none)] rfl rfl ⟨⟨rfl, by kernel_rfl⟩, trivial⟩ (fun ext => TL.move hF rfl rfl TL.fin) ?_
    refine DR.stepV [_, _, _, _, _, _] rfl [(38, _, some 3), (39, _, some 4)] rfl rfl ⟨⟨rfl, rfl, rfl⟩, ⟨rfl, rfl, rfl⟩, trivial⟩ (fun ext => TL.indexAddr hF rfl rfl (hsr.tad scl (by decide) (i := k) hkl) (by omega) (by omega) rfl TL.fin) ?_
    refine DR.stepV [_, _, _, _, _, _, _] rfl [(40, _, some 5)] rfl rfl ⟨⟨rfl, rfl, rfl⟩, trivial⟩ (fun ext => TL.fieldAddr hF rfl rfl TL.fin) ?_
    refine DR.stepV [_, _, _, _, _, _, _, _] rfl [(41, _, some 6)] rfl rfl ⟨⟨rfl, rfl, rfl⟩, trivial⟩ (fun ext => TL.load hF rfl (hsr.ro.tab scl (i := k) hkl 0 rfl) rfl TL.fin) ?_
    refine DR.stepV [_, _, _, _, _, _, _, _, _] rfl [(6, _, none)] rfl rfl ⟨⟨rfl, by kernel_rfl⟩, trivial⟩ (fun ext => TL.fieldAddr hF rfl rfl TL.fin) ?_
    refine DR.stepV [_, _, _, _, _, _, _, _, _, _] rfl [(43, _, some 8)] rfl rfl ⟨⟨rfl, rfl, rfl⟩, trivial⟩ (fun ext => TL.load hF rfl (by first | exact At.own' (i := 0) rfl rfl | exact At.own' (i := 1) rfl rfl | exact At.own' (i := 2) rfl rfl | exact At.own' (i := 3) rfl rfl | exact At.own' (i := 4) rfl rfl | exact At.own' (i := 5) rfl rfl | exact At.own' (i := 6) rfl rfl | exact At.own' (i := 7) rfl rfl | exact At.own' (i := 8) rfl rfl | exact At.own' (i := 9) rfl rfl | exact At.own' (i := 10) rfl rfl | exact At.own' (i := 11) rfl rfl | exact At.own' (i := 12) rfl rfl) rfl TL.fin) ?_
    refine DR.stepV [_, _, _, _, _, _, _, _, _, _, _] rfl [(14, _, none)] rfl rfl ⟨⟨rfl, by kernel_rfl⟩, trivial⟩ (fun ext => TL.move hF rfl rfl TL.fin) ?_
    refine DR.stepV [_, _, _, _, _, _, _, _, _, _, _, _] rfl [(44, _, some 9), (45, _, some 10)] rfl rfl ⟨⟨rfl, rfl, rfl⟩, ⟨rfl, rfl, rfl⟩, trivial⟩ (fun ext => TL.indexAddr hF rfl rfl (hsr.tad scl (by decide) (i := k) hkl) (by omega) (by omega) rfl TL.fin) ?_
    refine DR.stepV [_, _, _, _, _, _, _, _, _, _, _, _, _] rfl [(46, _, some 11)] rfl rfl ⟨⟨rfl, rfl, rfl⟩, trivial⟩ (fun ext => TL.fieldAddr hF rfl rfl TL.fin) ?_
    refine DR.stepV [_, _, _, _, _, _, _, _, _, _, _, _, _, _] rfl [(47, _, some 12)] rfl rfl ⟨⟨rfl, rfl, rfl⟩, trivial⟩ (fun ext => TL.load hF rfl (hsr.ro.tab scl (i := k) hkl 1 rfl) rfl TL.fin) ?_
    refine DR.done [(48, _), (47, _), (46, _), (45, _), (44, _), (43, _), (42, _), (41, _), (40, _), (39, _), (38, _), (37, _), (36, _), (35, _)] [_, _] mixed (by kernel_rfl) (by kernel_rfl) (by kernel_rfl) rfl rfl ?_
    refine TL.indexAddr hF rfl rfl ⟨_, rfl, rfl⟩ (by omega) (by omega) rfl ?_
    refine TL.storeI hF 4 rfl rfl rfl rfl (by have := hw.size; simp; omega) ?_
    refine TL.nil ?_
    refine TQ.block_n ?_
    refine TQ.then_n ?_
    refine T.region ?_
    refine TL.move hF rfl rfl ?_
    refine TL.add hF rfl rfl (by omega) (by omega) rfl ?_
    refine TL.assign hF rfl rfl ?_
    refine TL.nil ?_
    refine TQ.round (k + 1, wu.setIfInBounds x.sets[k].node.toNat (.int .i64 x.sets[k].word)) ⟨by simp only; omega, ?_⟩ (by simp only; omega) ⟨rfl, rfl, rfl, rfl, rfl, rfl, rfl, rfl, rfl, rfl, trivial⟩ (by simp)
    simp only
    rw [setsF_succ hkl]; exact hw.put _ _
  · refine T.exit ?_
    refine TQ.then_x ?_
    refine TQ.then_x ?_
    refine TQ.block_x ?_
    refine TQ.then_n ?_
    refine T.seq ?_
    refine T.seq ?_
    refine T.region ?_
    refine TL.assign hF rfl rfl ?_
    refine TL.nil ?_
    refine TQ.then_n ?_
    refine T.block ?_
    rw [List.take_of_length_le (by omega)] at hw
    refine T.loop (ι := Nat × Array Value) (fun i => i.1 ≤ l.length ∧ OIs d.ob d.oc l.length (fun t => if t < i.1 ∧ (setsF s.W x.sets) t ≠ s.W t then (now : Int) else s.O t) i.2) (fun i => [(0, .slice a l.length c), (2, .int .i64 (now : Int)), (3, .slice sa pick.length sc), (9, ptr b9), (10, .slice none 0 0), (11, .int .i64 0), (12, ptr b12), (6, ptr b6), (13, .slice (some ⟨b13, 0, none⟩) l.length c13), (15, .int .i64 (i.1 : Int))]) (fun i => cseg b13 u13 :: [(b12, Obj.cells #[.slice none 0 0, .slice none 0 0, .slice none 0 0, .int .i64 0] 105 (0, 0))] :: [(b9, Obj.cells (stV l.length d (s.used)).toArray 105 (0, 0))] :: [(b6, Obj.cells x.cells.toArray 50 (0, 0))] :: cseg d.wb wu :: cseg d.ob i.2 :: cseg d.lb d.lu :: η) (fun i => l.length - i.1) (0, d.ou) ⟨Nat.zero_le _, hs.o.congr (fun i _ => by simp)⟩ ⟨rfl, rfl, rfl, rfl, rfl, rfl, rfl, rfl, rfl, rfl, trivial⟩ rfl ?_
    rintro ⟨k, ou⟩ ⟨hk, ho⟩
    simp only at hk ho
    refine T.seq ?_
    refine T.seq ?_
    refine T.region ?_
    refine TL.move hF rfl rfl ?_
    refine TL.move hF rfl rfl ?_
    refine TL.len hF rfl rfl ?_
    refine TL.bin hF rfl rfl rfl rfl ?_
    refine TL.nil ?_
    refine TQ.then_n ?_
    first | refine T.cond_d rfl (fun ht53 => ?_) (fun ht53 => ?_) | refine T.cond _ rfl (fun ht53 => ?_) (fun ht53 => ?_)
    · refine T.skip ?_
      refine TQ.then_n ?_
      refine T.seq ?_
      refine T.block ?_
      refine T.seq ?_
      refine T.draw ?_
      refine DR.stepV [_] rfl [(9, _, none)] rfl rfl ⟨⟨rfl, by kernel_rfl⟩, trivial⟩ (fun ext => TL.fieldAddr hF rfl rfl TL.fin) ?_
      refine DR.stepV [_, _] rfl [(56, _, some 0)] rfl rfl ⟨⟨rfl, rfl, rfl⟩, trivial⟩ (fun ext => TL.load hF rfl (by first | exact At.own' (i := 0) rfl rfl | exact At.own' (i := 1) rfl rfl | exact At.own' (i := 2) rfl rfl | exact At.own' (i := 3) rfl rfl | exact At.own' (i := 4) rfl rfl | exact At.own' (i := 5) rfl rfl | exact At.own' (i := 6) rfl rfl | exact At.own' (i := 7) rfl rfl | exact At.own' (i := 8) rfl rfl | exact At.own' (i := 9) rfl rfl | exact At.own' (i := 10) rfl rfl | exact At.own' (i := 11) rfl rfl | exact At.own' (i := 12) rfl rfl) rfl TL.fin) ?_
      refine DR.stepV [_, _, _] rfl [(15, _, none)] rfl rfl ⟨⟨rfl, by kernel_rfl⟩, trivial⟩ (fun ext => TL.move hF rfl rfl TL.fin) ?_
      refine DR.stepV [_, _, _, _] rfl [(57, _, some 1), (58, _, some 2)] rfl rfl ⟨⟨rfl, rfl, rfl⟩, ⟨rfl, rfl, rfl⟩, trivial⟩ (fun ext => TL.indexAddr hF rfl rfl ⟨_, rfl, rfl⟩ (by omega) (by omega) rfl TL.fin) ?_
      refine DR.stepV [_, _, _, _, _] rfl [(59, _, some 3)] rfl rfl ⟨⟨rfl, rfl, rfl⟩, trivial⟩ (fun ext => TL.load hF rfl (hw.at (j := k) (upc _ (upc _ (upc _ (upc _ List.mem_cons_self)))) (by omega)) rfl TL.fin) ?_
      refine DR.stepV [_, _, _, _, _, _] rfl [(13, _, none)] rfl rfl ⟨⟨rfl, by kernel_rfl⟩, trivial⟩ (fun ext => TL.move hF rfl rfl TL.fin) ?_
      refine DR.stepV [_, _, _, _, _, _, _] rfl [(15, _, none)] rfl rfl ⟨⟨rfl, by kernel_rfl⟩, trivial⟩ (fun ext => TL.move hF rfl rfl TL.fin) ?_
      refine DR.stepV [_, _, _, _, _, _, _, _] rfl [(61, _, some 5), (62, _, some 6)] rfl rfl ⟨⟨rfl, rfl, rfl⟩, ⟨rfl, rfl, rfl⟩, trivial⟩ (fun ext => TL.indexAddr hF rfl rfl ⟨_, rfl, rfl⟩ (by omega) (by omega) rfl TL.fin) ?_
      refine DR.stepV [_, _, _, _, _, _, _, _, _] rfl [(63, _, some 7)] rfl rfl ⟨⟨rfl, rfl, rfl⟩, trivial⟩ (fun ext => TL.load hF rfl (hb.at (j := k) List.mem_cons_self (by omega)) rfl TL.fin) ?_
      refine DR.done [(64, _), (63, _), (62, _), (61, _), (60, _), (59, _), (58, _), (57, _), (56, _)] [_] mixed (by kernel_rfl) (by kernel_rfl) (by kernel_rfl) rfl rfl ?_
      refine TL.bin hF rfl rfl rfl rfl ?_
      refine TL.nil ?_
      refine TQ.then_n ?_
      first | refine T.cond_d rfl (fun ht65 => ?_) (fun ht65 => ?_) | refine T.cond _ rfl (fun ht65 => ?_) (fun ht65 => ?_)
      · refine T.region ?_
        refine TL.fieldAddr hF rfl rfl ?_
        refine TL.load hF rfl (by first | exact At.own' (i := 0) rfl rfl | exact At.own' (i := 1) rfl rfl | exact At.own' (i := 2) rfl rfl | exact At.own' (i := 3) rfl rfl | exact At.own' (i := 4) rfl rfl | exact At.own' (i := 5) rfl rfl | exact At.own' (i := 6) rfl rfl | exact At.own' (i := 7) rfl rfl | exact At.own' (i := 8) rfl rfl | exact At.own' (i := 9) rfl rfl | exact At.own' (i := 10) rfl rfl | exact At.own' (i := 11) rfl rfl | exact At.own' (i := 12) rfl rfl) rfl ?_
        refine TL.move hF rfl rfl ?_
        refine TL.move hF rfl rfl ?_
        refine TL.indexAddr hF rfl rfl ⟨_, rfl, rfl⟩ (by omega) (by omega) rfl ?_
        refine TL.storeI hF 5 rfl rfl rfl rfl (by have := ho.size; simp; omega) ?_
        refine TL.nil ?_
        refine TQ.block_n ?_
        refine TQ.then_n ?_
        refine T.region ?_
        refine TL.move hF rfl rfl ?_
        refine TL.add hF rfl rfl (by omega) (by omega) rfl ?_
        refine TL.assign hF rfl rfl ?_
        refine TL.nil ?_
        refine TQ.round (k + 1, ou.setIfInBounds k (.int .i64 (now : Int))) ⟨by simp only; omega, (ho.put k _).congr (fun i _ => ?_)⟩ (by simp only; omega) ⟨rfl, rfl, rfl, rfl, rfl, rfl, rfl, rfl, rfl, rfl, trivial⟩ (by simp)
        unfold upd
        dsimp only
        by_cases h : i = k
        · subst h; rw [if_pos rfl, if_pos ⟨by omega, ht65⟩]
        · rw [if_neg h]
          by_cases h2 : i < k
          · simp only [h2, show i < k + 1 by omega]
          · rw [if_neg (fun hx => h2 hx.1), if_neg (fun hx => by omega)]
      · refine T.skip ?_
        refine TQ.block_n ?_
        refine TQ.then_n ?_
        refine T.region ?_
        refine TL.move hF rfl rfl ?_
        refine TL.add hF rfl rfl (by omega) (by omega) rfl ?_
        refine TL.assign hF rfl rfl ?_
        refine TL.nil ?_
        refine TQ.round (k + 1, ou) ⟨by simp only; omega, ho.congr (fun i _ => ?_)⟩ (by simp only; omega) ⟨rfl, rfl, rfl, rfl, rfl, rfl, rfl, rfl, rfl, rfl, trivial⟩ rfl
        dsimp only
        by_cases h : i = k
        · subst h; rw [if_neg (fun hx => by omega), if_neg (fun hx => ht65 hx.2)]
        · by_cases h2 : i < k
          · simp only [h2, show i < k + 1 by omega]
          · rw [if_neg (fun hx => h2 hx.1), if_neg (fun hx => by omega)]
    · refine T.exit ?_
      refine TQ.then_x ?_
      refine TQ.then_x ?_
      refine TQ.block_x ?_
      refine TQ.then_n ?_
      refine T.seq ?_
      refine T.region ?_
      refine TL.move hF rfl rfl ?_
      have hkl : k = l.length := by omega
      have ho2 : OIs d.ob d.oc l.length (afterSets x now s).O ou := ho.congr (fun i hi => by unfold afterSets; simp only; rw [hkl]; simp only [hi, true_and])
      have hs2 : SOk l.length { d with wu := wu, ou := ou } (afterSets x now s) := ⟨hw, ho2, hs.l⟩
      refine TL.loadA hF x.cells rfl (icl x) (own_list (i := 3) rfl) rfl ?_
      refine TL.call hF (Wanted_ref (x := x) hn hok har hxa) rfl rfl ?_
      rintro _ _ ⟨bw, rfl, rfl⟩
      refine TL.assign hF rfl rfl ?_
      refine TL.nil ?_
      refine TQ.then_n ?_
      refine T.seq ?_
      refine T.region ?_
      refine TL.assign hF rfl rfl ?_
      refine TL.nil ?_
      refine TQ.then_n ?_
      refine T.seq ?_
      refine T.region ?_
      refine TL.assign hF rfl rfl ?_
      refine TL.nil ?_
      refine TQ.then_n ?_
      refine T.seq ?_
      refine T.seq ?_
      refine T.region ?_
      refine TL.move hF rfl rfl ?_
      refine TL.move hF rfl rfl ?_
      refine TL.loadA hF (stV l.length d s.used) rfl rfl (own_list (i := 3) rfl) rfl ?_
      refine TL.move hF rfl rfl ?_
      refine TL.call hF (ready_ref (d := { d with wu := wu, ou := ou }) (s := afterSets x now s) (u := s.used) (want := (wantS l x.asks)) hn hok hs2 ⟨(upc _ (upc _ (upc _ (upc _ (upc _ List.mem_cons_self))))), (upc _ (upc _ (upc _ (upc _ (upc _ (upc _ List.mem_cons_self)))))), (upc _ (upc _ (upc _ (upc _ (upc _ (upc _ (upc _ List.mem_cons_self)))))))⟩ List.mem_cons_self) rfl rfl ?_
      rintro _ _ ⟨ra, rc, rg, rfl, rfl, hro⟩
      refine TL.assign hF rfl rfl ?_
      refine TL.nil ?_
      refine TQ.then_n ?_
      refine T.block ?_
      refine T.hnil ?_
      refine T.pick [1, 0, 2, 4, 5, 7, 8, 9] [_, _, _, _, _, _, _, _, _, _] rfl rfl rfl ?_
      refine T.loop (ι := IS) (IOk l (wantS l x.asks) now pick (afterSets x now s)) (fun i => [(0, .slice a l.length c), (2, .int .i64 (now : Int)), (3, .slice sa pick.length sc), (9, ptr b9), (10, .slice none 0 0), (11, .int .i64 0), (12, ptr b12), (16, .slice (some ⟨bw, 0, none⟩) l.length l.length), (17, .slice i.oa i.acc.length i.oc), (18, .int .i64 (i.cnt : Int)), (19, .slice i.ra (readyS l (wantS l x.asks) i.s now).length i.rc)]) (fun i => i.rg :: i.og :: bseg bw l.length (wantS l x.asks) :: [(b12, Obj.cells #[.slice none 0 0, .slice none 0 0, .slice none 0 0, .int .i64 0] 105 (0, 0))] :: [(b9, Obj.cells (stV l.length i.d (i.s.used)).toArray 105 (0, 0))] :: cseg i.d.wb i.d.wu :: cseg i.d.ob i.d.ou :: cseg i.d.lb i.d.lu :: η) (fun i => i.f) ⟨{ d with wu := wu, ou := ou }, afterSets x now s, [], 0, l.length, none, 0, [], ra, rc, rg⟩ ⟨hs2, by simp, rfl, unl_le _ _ _, fun j hj => by have := hL j hj; show s.L j ≤ now; omega, rfl, setsF_range (fun y hy => (setsOk_get hso hy).2.2) hW, Nat.le_refl _, OSl.nil 53 4, hro⟩ ⟨rfl, rfl, rfl, rfl, rfl, rfl, rfl, rfl, rfl, rfl, rfl, trivial⟩ rfl ?_
      clear hro
      rintro i hi
      have hiu := hi.used
      have hif := hi.fuel
      have hdn := hi.dn
      have hu1 : (afterSets x now s).used = s.used := rfl
      have hrl : (readyS l (wantS l x.asks) i.s now).length ≤ l.length := by have := List.length_filter_le (rdyB l (wantS l x.asks) i.s now) (List.range l.length); rw [List.length_range] at this; exact this
      refine T.seq ?_
      refine T.seq ?_
      refine T.region ?_
      refine TL.move hF rfl rfl ?_
      refine TL.len hF rfl rfl ?_
      refine TL.bin hF rfl rfl rfl rfl ?_
      refine TL.nil ?_
      refine TQ.then_n ?_
      first | refine T.cond_d rfl (fun ht81 => ?_) (fun ht81 => ?_) | refine T.cond _ rfl (fun ht81 => ?_) (fun ht81 => ?_)
      · refine T.skip ?_
        refine TQ.then_n ?_
        refine T.seq ?_
        refine T.block ?_
        refine T.seq ?_
        refine T.region ?_
        refine TL.assign hF rfl rfl ?_
        refine TL.nil ?_
        refine TQ.then_n ?_
        have hrne : (readyS l (wantS l x.asks) i.s now).length ≠ 0 := by omega
        refine T.cut (ι := Unit) (fun _ => True) (fun _ => [(0, .slice a l.length c), (2, .int .i64 (now : Int)), (3, .slice sa pick.length sc), (9, ptr b9), (10, .slice none 0 0), (11, .int .i64 0), (12, ptr b12), (16, .slice (some ⟨bw, 0, none⟩) l.length l.length), (17, .slice i.oa i.acc.length i.oc), (18, .int .i64 (i.cnt : Int)), (19, .slice i.ra (readyS l (wantS l x.asks) i.s now).length i.rc), (20, .int .i64 ((whichS pick i.s.used (readyS l (wantS l x.asks) i.s now).length : Nat) : Int))]) (fun _ => i.rg :: i.og :: bseg bw l.length (wantS l x.asks) :: [(b12, Obj.cells #[.slice none 0 0, .slice none 0 0, .slice none 0 0, .int .i64 0] 105 (0, 0))] :: [(b9, Obj.cells (stV l.length i.d (i.s.used)).toArray 105 (0, 0))] :: cseg i.d.wb i.d.wu :: cseg i.d.ob i.d.ou :: cseg i.d.lb i.d.lu :: η) ?_ ?_
        · refine T.seq ?_
          refine T.region ?_
          refine TL.move hF rfl rfl ?_
          refine TL.len hF rfl rfl ?_
          refine TL.bin hF rfl rfl rfl rfl ?_
          refine TL.nil ?_
          refine TQ.then_n ?_
          first | refine T.cond_d rfl (fun ht89 => ?_) (fun ht89 => ?_) | refine T.cond _ rfl (fun ht89 => ?_) (fun ht89 => ?_)
          · refine T.region ?_
            refine TL.move hF rfl rfl ?_
            refine TL.fieldAddr hF rfl rfl ?_
            refine TL.load hF rfl (by first | exact At.own' (i := 0) rfl rfl | exact At.own' (i := 1) rfl rfl | exact At.own' (i := 2) rfl rfl | exact At.own' (i := 3) rfl rfl | exact At.own' (i := 4) rfl rfl | exact At.own' (i := 5) rfl rfl | exact At.own' (i := 6) rfl rfl | exact At.own' (i := 7) rfl rfl | exact At.own' (i := 8) rfl rfl | exact At.own' (i := 9) rfl rfl | exact At.own' (i := 10) rfl rfl | exact At.own' (i := 11) rfl rfl | exact At.own' (i := 12) rfl rfl) rfl ?_
            refine TL.move hF rfl rfl ?_
            refine TL.len hF rfl rfl ?_
            have hpp : 0 < pick.length := by omega
            have hpm := Nat.mod_lt i.s.used hpp
            have hpv0 := hpk _ (List.getElem_mem hpm)
            obtain ⟨pv, hpv⟩ : ∃ pv : Nat, pick[i.s.used % pick.length] = (pv : Int) := ⟨(pick[i.s.used % pick.length]).toNat, by omega⟩
            refine TL.remN hF (a := i.s.used) (b := pick.length) rfl rfl hpp rfl ?_
            refine TL.indexAddr hF rfl rfl (hp.adi (i := i.s.used % pick.length) (by rw [List.length_map]; omega)) (by omega) (by omega) rfl ?_
            refine TL.load hF rfl (v := .int .i64 (pv : Int)) (by rw [← hpv, Int.toNat_natCast]; exact hp.ro.int (i := i.s.used % pick.length) hpm) rfl ?_
            refine TL.move hF rfl rfl ?_
            refine TL.len hF rfl rfl ?_
            refine TL.remN hF (a := pv) (b := (readyS l (wantS l x.asks) i.s now).length) rfl rfl (Nat.pos_of_ne_zero hrne) rfl ?_
            refine TL.assign hF rfl rfl ?_
            refine TL.nil ?_
            have hwh : pv % (readyS l (wantS l x.asks) i.s now).length = whichS pick i.s.used (readyS l (wantS l x.asks) i.s now).length := by
              unfold whichS; rw [if_neg (by omega), List.getD_eq_getElem?_getD, List.getElem?_eq_getElem hpm, Option.getD_some, hpv, Int.toNat_natCast]
            exact TQ.cut () trivial ⟨rfl, rfl, rfl, rfl, rfl, rfl, rfl, rfl, rfl, rfl, rfl, congrArg (fun z : Nat => some (Value.int .i64 (z : Int))) hwh, trivial⟩ rfl
          · refine T.skip ?_
            have hwh : 0 = whichS pick i.s.used (readyS l (wantS l x.asks) i.s now).length := by
              unfold whichS; rw [if_pos (by omega)]
            exact TQ.cut () trivial ⟨rfl, rfl, rfl, rfl, rfl, rfl, rfl, rfl, rfl, rfl, rfl, congrArg (fun z : Nat => some (Value.int .i64 (z : Int))) hwh, trivial⟩ rfl
        · intro _ _
          have hwm : whichS pick i.s.used (readyS l (wantS l x.asks) i.s now).length < (readyS l (wantS l x.asks) i.s now).length := by
            unfold whichS; split
            · omega
            · exact Nat.mod_lt _ (by omega)
          obtain ⟨j, hjn⟩ : ∃ j, nextS pick i.s (readyS l (wantS l x.asks) i.s now) = j := ⟨_, rfl⟩
          have hjm : j ∈ (readyS l (wantS l x.asks) i.s now) := hjn ▸ nextS_mem hrne
          obtain ⟨hjl, hjr⟩ := ready_mem'.1 hjm
          have hj0 : (nd l j).op ≠ 0 := (wantS_iff.1 (rdy_iff.1 hjr).1).1
          have hjv : (readyS l (wantS l x.asks) i.s now)[whichS pick i.s.used (readyS l (wantS l x.asks) i.s now).length]'hwm = j := by rw [← hjn]; unfold nextS; rw [List.getD_eq_getElem?_getD, List.getElem?_eq_getElem hwm]; rfl
          have hrow := hn.frow hjl
          have hfr := hok.fr j hjl
          have hfew := hok.few j hjl
          have hwd := hok.word j hjl
          have hmd := hok.mod j hjl
          have hp0 := hok.op0 j hjl
          have hp3 := hok.op3 j hjl
          rw [← nd_eq hjl] at hrow hfr hfew hwd hmd hp0 hp3
          refine T.seq ?_
          refine T.region ?_
          refine TL.fieldAddr hF rfl rfl ?_
          refine TL.load hF rfl (by first | exact At.own' (i := 0) rfl rfl | exact At.own' (i := 1) rfl rfl | exact At.own' (i := 2) rfl rfl | exact At.own' (i := 3) rfl rfl | exact At.own' (i := 4) rfl rfl | exact At.own' (i := 5) rfl rfl | exact At.own' (i := 6) rfl rfl | exact At.own' (i := 7) rfl rfl | exact At.own' (i := 8) rfl rfl | exact At.own' (i := 9) rfl rfl | exact At.own' (i := 10) rfl rfl | exact At.own' (i := 11) rfl rfl | exact At.own' (i := 12) rfl rfl) rfl ?_
          refine TL.add hF rfl rfl (by omega) (by omega) rfl ?_
          refine TL.fieldAddr hF rfl rfl ?_
          refine TL.storeI hF 4 rfl rfl rfl rfl (by simp) ?_
          refine TL.nil ?_
          refine TQ.then_n ?_
          refine T.seq ?_
          refine T.region ?_
          refine TL.move hF rfl rfl ?_
          refine TL.add hF rfl rfl (by omega) (by omega) rfl ?_
          refine TL.assign hF rfl rfl ?_
          refine TL.nil ?_
          refine TQ.then_n ?_
          refine T.seq ?_
          refine T.region ?_
          refine TL.move hF rfl rfl ?_
          refine TL.move hF rfl rfl ?_
          refine TL.indexAddr hF rfl rfl ((hi.rdy.row List.mem_cons_self).adi (η := [i.rg]) (S := S) (w0 := w0) (i := whichS pick i.s.used (readyS l (wantS l x.asks) i.s now).length) (by rw [List.length_map]; exact hwm)) (by omega) (by omega) rfl ?_
          refine TL.load hF rfl (v := .int .i64 (j : Int)) (by rw [Int.toNat_natCast, Nat.mul_one]; exact (hi.rdy.row List.mem_cons_self).cell _ _ (by rw [List.getElem?_map, List.getElem?_eq_getElem hwm, hjv]; rfl)) rfl ?_
          refine TL.assign hF rfl rfl ?_
          refine TL.nil ?_
          refine TQ.then_n ?_
          refine T.cut (ι := Array Value × Array Value × Option Addr × Nat × Seg) (fun q => OIs i.d.wb i.d.wc l.length (lookS l now i.s j).W q.1 ∧ OIs i.d.ob i.d.oc l.length (lookS l now i.s j).O q.2.1 ∧ OSl 53 4 (.slice q.2.2.1 (i.acc ++ doneS l now i.s j).length q.2.2.2.1) (i.acc ++ doneS l now i.s j).length ((i.acc ++ doneS l now i.s j).flatMap DoneD.cells) q.2.2.2.2) (fun q => [(0, .slice a l.length c), (2, .int .i64 (now : Int)), (3, .slice sa pick.length sc), (9, ptr b9), (10, .slice none 0 0), (11, .int .i64 0), (12, ptr b12), (16, .slice (some ⟨bw, 0, none⟩) l.length l.length), (17, .slice q.2.2.1 (i.acc ++ doneS l now i.s j).length q.2.2.2.1), (18, .int .i64 ((i.cnt : Int) + 1)), (19, .slice i.ra (readyS l (wantS l x.asks) i.s now).length i.rc), (21, .int .i64 (j : Int))]) (fun q => i.rg :: q.2.2.2.2 :: bseg bw l.length (wantS l x.asks) :: [(b12, Obj.cells #[.slice none 0 0, .slice none 0 0, .slice none 0 0, .int .i64 0] 105 (0, 0))] :: [(b9, Obj.cells (stV l.length i.d (i.s.used + 1)).toArray 105 (0, 0))] :: cseg i.d.wb q.1 :: cseg i.d.ob q.2.1 :: cseg i.d.lb i.d.lu :: η) ?_ ?_
          · refine T.seq ?_
            refine T.draw ?_
            refine DR.stepV [_] rfl [(0, _, none)] rfl rfl ⟨⟨rfl, by kernel_rfl⟩, trivial⟩ (fun ext => TL.move hF rfl rfl TL.fin) ?_
            refine DR.stepV [_, _] rfl [(21, _, none)] rfl rfl ⟨⟨rfl, by kernel_rfl⟩, trivial⟩ (fun ext => TL.move hF rfl rfl TL.fin) ?_
            refine DR.stepV [_, _, _] rfl [(111, _, some 0), (112, _, some 1)] rfl rfl ⟨⟨rfl, rfl, rfl⟩, ⟨rfl, rfl, rfl⟩, trivial⟩ (fun ext => TL.indexAddr hF rfl rfl (hn.ad (i := j) hjl) (by omega) (by omega) rfl TL.fin) ?_
            refine DR.stepV [_, _, _, _] rfl [(113, _, some 2)] rfl rfl ⟨⟨rfl, rfl, rfl⟩, trivial⟩ (fun ext => TL.loadA hF (nd l j).cells rfl rfl (by rw [nd_eq hjl]; exact hn.ro.atA (i := j) hjl) rfl TL.fin) ?_
            refine DR.stepV [_, _, _, _, _] rfl [(9, _, none)] rfl rfl ⟨⟨rfl, by kernel_rfl⟩, trivial⟩ (fun ext => TL.loadA hF (stV l.length i.d (i.s.used + 1)) rfl rfl (own_list (i := 4) rfl) rfl TL.fin) ?_
            refine DR.stepV [_, _, _, _, _, _] rfl [(21, _, none)] rfl rfl ⟨⟨rfl, by kernel_rfl⟩, trivial⟩ (fun ext => TL.move hF rfl rfl TL.fin) ?_
            refine DR.done [(116, _), (115, _), (114, _), (113, _), (112, _), (111, _)] [_] mixed (by kernel_rfl) (by kernel_rfl) (by kernel_rfl) rfl rfl ?_
            refine TL.callV hF (old_fn (x := (nd l j)) (s := i.s) hi.s ⟨(upc _ (upc _ (upc _ (upc _ (upc _ List.mem_cons_self))))), (upc _ (upc _ (upc _ (upc _ (upc _ (upc _ List.mem_cons_self)))))), (upc _ (upc _ (upc _ (upc _ (upc _ (upc _ (upc _ List.mem_cons_self)))))))⟩ hrow (by omega) (fun f hf => by have := hfr f hf; omega) hjl) rfl rfl ?_
            refine TL.nil ?_
            refine TQ.then_n ?_
            refine T.cond _ rfl (fun hold => ?_) (fun hold => ?_)
            · refine T.seq ?_
              refine T.draw ?_
              refine DR.stepV [_] rfl [(0, _, none)] rfl rfl ⟨⟨rfl, by kernel_rfl⟩, trivial⟩ (fun ext => TL.move hF rfl rfl TL.fin) ?_
              refine DR.stepV [_, _] rfl [(21, _, none)] rfl rfl ⟨⟨rfl, by kernel_rfl⟩, trivial⟩ (fun ext => TL.move hF rfl rfl TL.fin) ?_
              refine DR.stepV [_, _, _] rfl [(118, _, some 0), (119, _, some 1)] rfl rfl ⟨⟨rfl, rfl, rfl⟩, ⟨rfl, rfl, rfl⟩, trivial⟩ (fun ext => TL.indexAddr hF rfl rfl (hn.ad (i := j) hjl) (by omega) (by omega) rfl TL.fin) ?_
              refine DR.stepV [_, _, _, _] rfl [(120, _, some 2)] rfl rfl ⟨⟨rfl, rfl, rfl⟩, trivial⟩ (fun ext => TL.loadA hF (nd l j).cells rfl rfl (by rw [nd_eq hjl]; exact hn.ro.atA (i := j) hjl) rfl TL.fin) ?_
              refine DR.stepV [_, _, _, _, _] rfl [(9, _, none)] rfl rfl ⟨⟨rfl, by kernel_rfl⟩, trivial⟩ (fun ext => TL.fieldAddr hF rfl rfl TL.fin) ?_
              refine DR.stepV [_, _, _, _, _, _] rfl [(122, _, some 4)] rfl rfl ⟨⟨rfl, rfl, rfl⟩, trivial⟩ (fun ext => TL.load hF rfl (by first | exact At.own' (i := 0) rfl rfl | exact At.own' (i := 1) rfl rfl | exact At.own' (i := 2) rfl rfl | exact At.own' (i := 3) rfl rfl | exact At.own' (i := 4) rfl rfl | exact At.own' (i := 5) rfl rfl | exact At.own' (i := 6) rfl rfl | exact At.own' (i := 7) rfl rfl | exact At.own' (i := 8) rfl rfl | exact At.own' (i := 9) rfl rfl | exact At.own' (i := 10) rfl rfl | exact At.own' (i := 11) rfl rfl | exact At.own' (i := 12) rfl rfl) rfl TL.fin) ?_
              refine DR.done [(123, _), (122, _), (121, _), (120, _), (119, _), (118, _)] [_, _] mixed (by kernel_rfl) (by kernel_rfl) (by kernel_rfl) rfl rfl ?_
              refine TL.callV hF (Computed_fn (x := (nd l j)) (W := i.s.W) hrow (by omega) (hi.s.w.row (upc _ (upc _ (upc _ (upc _ (upc _ List.mem_cons_self)))))) (fun f hf => by have := hfr f hf; omega) (fun f _ => hi.word f.toNat) hwd (fun h1 h2 => hmd (by omega))) rfl rfl ?_
              refine TL.assign hF rfl rfl ?_
              refine TL.nil ?_
              refine TQ.then_n ?_
              refine T.cut (ι := Unit) (fun _ => True) (fun _ => [(0, .slice a l.length c), (2, .int .i64 (now : Int)), (3, .slice sa pick.length sc), (9, ptr b9), (10, .slice none 0 0), (11, .int .i64 0), (12, ptr b12), (16, .slice (some ⟨bw, 0, none⟩) l.length l.length), (17, .slice i.oa i.acc.length i.oc), (18, .int .i64 ((i.cnt : Int) + 1)), (19, .slice i.ra (readyS l (wantS l x.asks) i.s now).length i.rc), (21, .int .i64 (j : Int)), (22, .int .i64 (comp (nd l j) i.s.W)), (23, .bool (otherS l i.s j))]) (fun _ => i.rg :: i.og :: bseg bw l.length (wantS l x.asks) :: [(b12, Obj.cells #[.slice none 0 0, .slice none 0 0, .slice none 0 0, .int .i64 0] 105 (0, 0))] :: [(b9, Obj.cells (stV l.length i.d (i.s.used + 1)).toArray 105 (0, 0))] :: cseg i.d.wb i.d.wu :: cseg i.d.ob i.d.ou :: cseg i.d.lb i.d.lu :: η) ?_ ?_
              · refine T.region ?_
                refine TL.fieldAddr hF rfl rfl ?_
                refine TL.load hF rfl (by first | exact At.own' (i := 0) rfl rfl | exact At.own' (i := 1) rfl rfl | exact At.own' (i := 2) rfl rfl | exact At.own' (i := 3) rfl rfl | exact At.own' (i := 4) rfl rfl | exact At.own' (i := 5) rfl rfl | exact At.own' (i := 6) rfl rfl | exact At.own' (i := 7) rfl rfl | exact At.own' (i := 8) rfl rfl | exact At.own' (i := 9) rfl rfl | exact At.own' (i := 10) rfl rfl | exact At.own' (i := 11) rfl rfl | exact At.own' (i := 12) rfl rfl) rfl ?_
                refine TL.move hF rfl rfl ?_
                refine TL.indexAddr hF rfl rfl ⟨_, rfl, rfl⟩ (by omega) (by omega) rfl ?_
                refine TL.load hF rfl (hi.s.l.at (j := j) (upc _ (upc _ (upc _ (upc _ (upc _ (upc _ (upc _ List.mem_cons_self))))))) hjl) rfl ?_
                refine TL.bin hF rfl rfl rfl rfl ?_
                refine TL.move hF rfl rfl ?_
                refine TL.gd (t := 131) rfl (fun g25_131 => ?_) (fun g25_131 => ?_)
                · refine TL.off hF rfl rfl rfl (decide_eq_true g25_131) rfl ?_
                  refine TL.off hF rfl rfl rfl (decide_eq_true g25_131) rfl ?_
                  refine TL.off hF rfl rfl rfl (decide_eq_true g25_131) rfl ?_
                  refine TL.off hF rfl rfl rfl (decide_eq_true g25_131) rfl ?_
                  refine TL.off hF rfl rfl rfl (decide_eq_true g25_131) rfl ?_
                  refine TL.off hF rfl rfl rfl (decide_eq_true g25_131) rfl ?_
                  refine TL.off hF rfl rfl rfl (decide_eq_true g25_131) rfl ?_
                  refine TL.pickT hF rfl (decide_eq_true g25_131) rfl rfl ?_
                  refine TL.assign hF rfl rfl ?_
                  refine TL.nil ?_
                  exact TQ.cut () trivial ⟨rfl, rfl, rfl, rfl, rfl, rfl, rfl, rfl, rfl, rfl, rfl, rfl, rfl, congrArg (fun z => some (Value.bool z)) (by unfold otherS; rw [decide_eq_true g25_131]; rfl), trivial⟩ rfl
                · refine TL.on rfl rfl rfl (decide_eq_false g25_131) ?_
                  refine TL.move hF rfl rfl ?_
                  refine TL.on rfl rfl rfl (decide_eq_false g25_131) ?_
                  refine TL.fieldAddr hF rfl rfl ?_
                  refine TL.on rfl rfl rfl (decide_eq_false g25_131) ?_
                  refine TL.load hF rfl (by first | exact At.own' (i := 0) rfl rfl | exact At.own' (i := 1) rfl rfl | exact At.own' (i := 2) rfl rfl | exact At.own' (i := 3) rfl rfl | exact At.own' (i := 4) rfl rfl | exact At.own' (i := 5) rfl rfl | exact At.own' (i := 6) rfl rfl | exact At.own' (i := 7) rfl rfl | exact At.own' (i := 8) rfl rfl | exact At.own' (i := 9) rfl rfl | exact At.own' (i := 10) rfl rfl | exact At.own' (i := 11) rfl rfl | exact At.own' (i := 12) rfl rfl) rfl ?_
                  refine TL.on rfl rfl rfl (decide_eq_false g25_131) ?_
                  refine TL.move hF rfl rfl ?_
                  refine TL.on rfl rfl rfl (decide_eq_false g25_131) ?_
                  refine TL.indexAddr hF rfl rfl ⟨_, rfl, rfl⟩ (by omega) (by omega) rfl ?_
                  refine TL.on rfl rfl rfl (decide_eq_false g25_131) ?_
                  refine TL.load hF rfl (hi.s.w.at (j := j) (upc _ (upc _ (upc _ (upc _ (upc _ List.mem_cons_self))))) hjl) rfl ?_
                  refine TL.on rfl rfl rfl (decide_eq_false g25_131) ?_
                  refine TL.bin hF rfl rfl rfl rfl ?_
                  refine TL.pickF hF rfl (decide_eq_false g25_131) rfl rfl ?_
                  refine TL.assign hF rfl rfl ?_
                  refine TL.nil ?_
                  exact TQ.cut () trivial ⟨rfl, rfl, rfl, rfl, rfl, rfl, rfl, rfl, rfl, rfl, rfl, rfl, rfl, congrArg (fun z => some (Value.bool z)) (by unfold otherS; rw [decide_eq_false g25_131]; rfl), trivial⟩ rfl
              · intro _ _
                refine T.cut (ι := Array Value) (fun q => OIs i.d.ob i.d.oc l.length (lookS l now i.s j).O q) (fun _ => [(0, .slice a l.length c), (2, .int .i64 (now : Int)), (3, .slice sa pick.length sc), (9, ptr b9), (10, .slice none 0 0), (11, .int .i64 0), (12, ptr b12), (16, .slice (some ⟨bw, 0, none⟩) l.length l.length), (17, .slice i.oa i.acc.length i.oc), (18, .int .i64 ((i.cnt : Int) + 1)), (19, .slice i.ra (readyS l (wantS l x.asks) i.s now).length i.rc), (21, .int .i64 (j : Int)), (22, .int .i64 (comp (nd l j) i.s.W)), (23, .bool (otherS l i.s j))]) (fun q => i.rg :: i.og :: bseg bw l.length (wantS l x.asks) :: [(b12, Obj.cells #[.slice none 0 0, .slice none 0 0, .slice none 0 0, .int .i64 0] 105 (0, 0))] :: [(b9, Obj.cells (stV l.length i.d (i.s.used + 1)).toArray 105 (0, 0))] :: cseg i.d.wb i.d.wu :: cseg i.d.ob q :: cseg i.d.lb i.d.lu :: η) ?_ ?_
                · refine T.seq ?_
                  refine T.region ?_
                  refine TL.move hF rfl rfl ?_
                  refine TL.nil ?_
                  refine TQ.then_n ?_
                  refine T.cond _ rfl (fun hoth => ?_) (fun hoth => ?_)
                  · refine T.region ?_
                    refine TL.fieldAddr hF rfl rfl ?_
                    refine TL.load hF rfl (by first | exact At.own' (i := 0) rfl rfl | exact At.own' (i := 1) rfl rfl | exact At.own' (i := 2) rfl rfl | exact At.own' (i := 3) rfl rfl | exact At.own' (i := 4) rfl rfl | exact At.own' (i := 5) rfl rfl | exact At.own' (i := 6) rfl rfl | exact At.own' (i := 7) rfl rfl | exact At.own' (i := 8) rfl rfl | exact At.own' (i := 9) rfl rfl | exact At.own' (i := 10) rfl rfl | exact At.own' (i := 11) rfl rfl | exact At.own' (i := 12) rfl rfl) rfl ?_
                    refine TL.move hF rfl rfl ?_
                    refine TL.move hF rfl rfl ?_
                    refine TL.indexAddr hF rfl rfl ⟨_, rfl, rfl⟩ (by omega) (by omega) rfl ?_
                    refine TL.storeI hF 6 rfl rfl rfl rfl (by have := hi.s.o.size; simp; omega) ?_
                    refine TL.nil ?_
                    refine TQ.cut (i.d.ou.setIfInBounds j (.int .i64 (now : Int))) ?_ ⟨rfl, rfl, rfl, rfl, rfl, rfl, rfl, rfl, rfl, rfl, rfl, rfl, rfl, rfl, trivial⟩ (by simp)
                    have e : (lookS l now i.s j).O = upd i.s.O j (now : Int) := by unfold lookS; rw [if_pos hold, hoth]; rfl
                    rw [e]; exact hi.s.o.put _ _
                  · refine T.skip ?_
                    refine TQ.cut i.d.ou ?_ ⟨rfl, rfl, rfl, rfl, rfl, rfl, rfl, rfl, rfl, rfl, rfl, rfl, rfl, rfl, trivial⟩ rfl
                    have e : (lookS l now i.s j).O = i.s.O := by unfold lookS; rw [if_pos hold, hoth]; rfl
                    rw [e]; exact hi.s.o
                · rintro ou2 hou2
                  refine T.seq ?_
                  refine T.region ?_
                  refine TL.fieldAddr hF rfl rfl ?_
                  refine TL.load hF rfl (by first | exact At.own' (i := 0) rfl rfl | exact At.own' (i := 1) rfl rfl | exact At.own' (i := 2) rfl rfl | exact At.own' (i := 3) rfl rfl | exact At.own' (i := 4) rfl rfl | exact At.own' (i := 5) rfl rfl | exact At.own' (i := 6) rfl rfl | exact At.own' (i := 7) rfl rfl | exact At.own' (i := 8) rfl rfl | exact At.own' (i := 9) rfl rfl | exact At.own' (i := 10) rfl rfl | exact At.own' (i := 11) rfl rfl | exact At.own' (i := 12) rfl rfl) rfl ?_
                  refine TL.move hF rfl rfl ?_
                  refine TL.move hF rfl rfl ?_
                  refine TL.indexAddr hF rfl rfl ⟨_, rfl, rfl⟩ (by omega) (by omega) rfl ?_
                  refine TL.storeI hF 5 rfl rfl rfl rfl (by have := hi.s.w.size; simp; omega) ?_
                  refine TL.nil ?_
                  refine TQ.then_n ?_
                  refine T.region ?_
                  refine TL.move hF rfl rfl ?_
                  refine TL.move hF rfl rfl ?_
                  refine TL.move hF rfl rfl ?_
                  refine TL.move hF rfl rfl ?_
                  refine TL.move hF rfl rfl ?_
                  refine TL.build hF rfl (r := .agg #[.int .i64 (now : Int), .int .i64 (j : Int), .int .i64 (comp (nd l j) i.s.W), .bool (otherS l i.s j)]) (fun w => by kernel_rfl) rfl ?_
                  refine TL.buildSlice hF rfl (cs := (DoneD.cells ⟨now, j, comp (nd l j) i.s.W, otherS l i.s j⟩).toArray) (e := 53) (fun w => by kernel_rfl) rfl (fun b157 => ?_)
                  refine TL.append hF 2 rfl rfl rfl hi.out (row_own (cs := DoneD.cells ⟨now, j, comp (nd l j) i.s.W, otherS l i.s j⟩) (e := 53) List.mem_cons_self).src rfl rfl (dcells1 _) (by omega) (by omega) rfl (fun a' cap' seg' ho' => ?_)
                  refine TL.assign hF rfl rfl ?_
                  refine TL.nil ?_
                  refine TQ.pop ?_
                  have eW : (lookS l now i.s j).W = upd i.s.W j (comp (nd l j) i.s.W) := by unfold lookS; rw [if_pos hold]
                  have eD : doneS l now i.s j = [⟨now, j, comp (nd l j) i.s.W, otherS l i.s j⟩] := by unfold doneS; rw [if_pos hold]
                  have eL : i.acc.length + 1 = (i.acc ++ doneS l now i.s j).length := by rw [eD]; simp
                  have eF : i.acc.flatMap DoneD.cells ++ DoneD.cells ⟨now, j, comp (nd l j) i.s.W, otherS l i.s j⟩ = (i.acc ++ doneS l now i.s j).flatMap DoneD.cells := by rw [eD]; simp
                  refine TQ.cut (i.d.wu.setIfInBounds j (.int .i64 (comp (nd l j) i.s.W)), ou2, a', cap', seg') ⟨by rw [eW]; exact hi.s.w.put _ _, hou2, by rw [← eL, ← eF]; exact ho'⟩ ⟨rfl, rfl, rfl, rfl, rfl, rfl, rfl, rfl, congrArg (fun z : Nat => some (Value.slice a' z cap')) eL, rfl, rfl, rfl, trivial⟩ (by simp)
            · refine T.skip ?_
              have eW : (lookS l now i.s j).W = i.s.W := by unfold lookS; rw [if_neg (by rw [hold]; decide)]
              have eO : (lookS l now i.s j).O = i.s.O := by unfold lookS; rw [if_neg (by rw [hold]; decide)]
              have eD : (i.acc ++ doneS l now i.s j) = i.acc := by unfold doneS; rw [if_neg (by rw [hold]; decide)]; simp
              refine TQ.cut (i.d.wu, i.d.ou, i.oa, i.oc, i.og) ⟨by rw [eW]; exact hi.s.w, by rw [eO]; exact hi.s.o, by rw [eD]; exact hi.out⟩ ⟨rfl, rfl, rfl, rfl, rfl, rfl, rfl, rfl, congrArg (fun z : List DoneD => some (Value.slice i.oa z.length i.oc)) eD.symm, rfl, rfl, rfl, trivial⟩ rfl
          · rintro ⟨wu2, ou2, oa2, oc2, og2⟩ ⟨hw2, hou2, hout2⟩
            simp only at hw2 hou2 hout2
            refine T.region ?_
            refine TL.fieldAddr hF rfl rfl ?_
            refine TL.load hF rfl (by first | exact At.own' (i := 0) rfl rfl | exact At.own' (i := 1) rfl rfl | exact At.own' (i := 2) rfl rfl | exact At.own' (i := 3) rfl rfl | exact At.own' (i := 4) rfl rfl | exact At.own' (i := 5) rfl rfl | exact At.own' (i := 6) rfl rfl | exact At.own' (i := 7) rfl rfl | exact At.own' (i := 8) rfl rfl | exact At.own' (i := 9) rfl rfl | exact At.own' (i := 10) rfl rfl | exact At.own' (i := 11) rfl rfl | exact At.own' (i := 12) rfl rfl) rfl ?_
            refine TL.move hF rfl rfl ?_
            refine TL.move hF rfl rfl ?_
            refine TL.indexAddr hF rfl rfl ⟨_, rfl, rfl⟩ (by omega) (by omega) rfl ?_
            refine TL.storeI hF 7 rfl rfl rfl rfl (by have := hi.s.l.size; simp; omega) ?_
            refine TL.nil ?_
            refine TQ.block_n ?_
            refine TQ.then_n ?_
            refine T.region ?_
            refine TL.move hF rfl rfl ?_
            refine TL.move hF rfl rfl ?_
            have hs3 : SOk l.length ⟨i.d.wb, i.d.wc, wu2, i.d.ob, i.d.oc, ou2, i.d.lb, i.d.lc, i.d.lu.setIfInBounds j (.int .i64 (now : Int))⟩ (lookS l now i.s j) := ⟨hw2, hou2, by rw [lookS_L]; exact hi.s.l.put _ _⟩
            refine TL.loadA hF (stV l.length i.d (i.s.used + 1)) rfl rfl (own_list (i := 4) rfl) rfl ?_
            refine TL.move hF rfl rfl ?_
            refine TL.call hF (ready_ref (u := i.s.used + 1) (now := now) (want := (wantS l x.asks)) hn hok hs3 ⟨by simp, by simp, by simp⟩ (by simp)) rfl rfl ?_
            rintro _ _ ⟨ra2, rc2, rg2, rfl, rfl, hro2⟩
            refine TL.assign hF rfl rfl ?_
            refine TL.nil ?_
            refine TQ.pick [0, 2, 3, 4, 5, 6, 7, 8] [_, _, _, _, _, _, _, _, _] rfl rfl rfl ?_
            have hnx := hi.step hok (fun j h => (wantS_iff.1 h).1) hrne hjn hs3 hout2 hro2
            have hun := ready_unl hrne
            have hun2 := hi.un
            refine TQ.round _ hnx (by simp only; omega) ⟨rfl, rfl, rfl, rfl, rfl, rfl, rfl, rfl, rfl, rfl, rfl, trivial⟩ ?_
            simp only [lookS_used]
            simp
            rfl
      · refine T.exit ?_
        refine TQ.then_x ?_
        refine TQ.then_x ?_
        refine TQ.block_x ?_
        refine TQ.then_n ?_
        refine T.seq ?_
        refine T.draw ?_
        refine DR.stepV [_] rfl [(17, _, none)] rfl rfl ⟨⟨rfl, by kernel_rfl⟩, trivial⟩ (fun ext => TL.move hF rfl rfl TL.fin) ?_
        refine DR.stepV [_, _] rfl [(18, _, none)] rfl rfl ⟨⟨rfl, by kernel_rfl⟩, trivial⟩ (fun ext => TL.move hF rfl rfl TL.fin) ?_
        refine DR.stepV [_, _, _] rfl [(9, _, none)] rfl rfl ⟨⟨rfl, by kernel_rfl⟩, trivial⟩ (fun ext => TL.loadA hF (stV l.length i.d i.s.used) rfl rfl (own_list (i := 4) rfl) rfl TL.fin) ?_
        refine DR.stepV [_, _, _, _] rfl [(164, _, some 0)] rfl rfl ⟨⟨rfl, rfl, rfl⟩, trivial⟩ (fun ext => TL.assign hF rfl rfl TL.fin) ?_
        refine DR.stepV [_, _, _, _, _] rfl [(165, _, some 1)] rfl rfl ⟨⟨rfl, rfl, rfl⟩, trivial⟩ (fun ext => TL.assign hF rfl rfl TL.fin) ?_
        refine DR.done [(11, _), (10, _), (166, _), (165, _), (164, _)] [_] mixed (by kernel_rfl) (by kernel_rfl) (by kernel_rfl) rfl rfl ?_
        refine TL.storeAI hF (stV l.length i.d i.s.used) 3 rfl rfl rfl rfl (stCells _ _ _) (by simp) ?_
        refine TL.nil ?_
        refine TQ.then_n ?_
        refine T.ret ?_
        have hr0 : (readyS l (wantS l x.asks) i.s now).length = 0 := by omega
        have hsp := hi.spec
        rw [runI_stop hr0] at hsp
        have hins : instS l x now pick s = (i.acc, i.cnt, i.s) := by unfold instS; rw [hsp]; simp
        refine TQ.retX [.tmp 10, .tmp 11, .cell 12 105] [.slice i.oa i.acc.length i.oc, .int .i64 (i.cnt : Int), .agg (stV l.length i.d i.s.used).toArray] (i.og :: stH i.d η) rfl ⟨rfl, rfl, ResV.agg (stV l.length i.d i.s.used) rfl rfl (own_list (i := 3) rfl), trivial⟩ rfl (List.Sublist.cons _ (List.Sublist.cons_cons _ (List.Sublist.cons _ (List.Sublist.cons _ (List.Sublist.cons _ (List.Sublist.refl _)))))) ?_
        exact ⟨i, hi, hins, rfl, rfl⟩
end Go.Proofs.YtefkmiomldhmjaaDoor
