/- Several texts in one. -/
import Derived.Test.YtefkmiomldhmjaaDoorQc
/- The engine looks at a node. -/
namespace Go.Proofs.YtefkmiomldhmjaaDoor
open Go.Sl
variable {S : Nat → Prop} {w0 : World} {η : Heap}
theorem iseg_upd {b n j k : Nat} {f : Nat → Int} {v : Int} (hk : k = j) : [(b, Obj.cells ((intC n f).toArray.setIfInBounds k (.int .i64 v)) 3 (0, 0))] = iseg b n (upd f j v) := by
  subst hk; rw [intC_set (g := upd f k v) (fun i _ => rfl)]
theorem EOk.put {l : List NodeD} {x : EX} {s : St} {ds : List DoneD} (hx : EOk l x s ds) {m : List (Int × Int)} (hw : WMap l s m) {es : Array MapEntry} {clock i now : Nat} {w : Int} (hm : MObj KS (Value.int .i64) (mput (i : Int) w m) es clock) (hr : -2147483648 ≤ w ∧ w ≤ 2147483647)
    {a : Option Addr} {cap : Nat} {seg : Seg} {d : DoneD} (ho : OSl 53 4 (.slice a (ds.length + 1) cap) (ds.length + 1) (ds.flatMap DoneD.cells ++ d.cells) seg) (O' : Nat → Int) (u : Nat) :
    EOk l { x with es := es, clock := clock, da := a, dc := cap, dg := seg } ⟨upd s.W i w, O', upd s.L i now, u⟩ (ds ++ [d]) := by
  refine ⟨⟨_, hm, fun j hj => ?_⟩, fun j hj h0 hL => ?_, ?_, fun j => ?_⟩
  · rw [mget_mput]
    by_cases h : j = i
    · subst h; simp [upd_same]
    · rw [if_neg (by omega), hw j hj]; simp only [upd_ne _ _ h]
  · by_cases h : j = i
    · subst h; simp only [upd_same] at hL; omega
    · simp only [upd_ne _ _ h] at hL ⊢; exact hx.zero j hj h0 hL
  · have e1 : (ds ++ [d]).length = ds.length + 1 := by simp
    have e2 : (ds ++ [d]).flatMap DoneD.cells = ds.flatMap DoneD.cells ++ d.cells := by simp
    simp only [e1, e2]; exact ho
  · simp only [upd]; split
    · exact hr
    · exact hx.word j
theorem EOk.keep {l : List NodeD} {x : EX} {s : St} {ds : List DoneD} (hx : EOk l x s ds) {i now : Nat} (hL : 0 ≤ s.L i) {a : Option Addr} {cap : Nat} {seg : Seg} {ds' : List DoneD} (ho : OSl 53 4 (.slice a ds'.length cap) ds'.length (ds'.flatMap DoneD.cells) seg) (W' O' : Nat → Int) (hW : ∀ j, W' j = s.W j) (u : Nat) :
    EOk l { x with da := a, dc := cap, dg := seg } ⟨W', O', upd s.L i now, u⟩ ds' := by
  obtain ⟨m, hm, hw⟩ := hx.map
  refine ⟨⟨m, hm, fun j hj => ?_⟩, fun j hj h0 h1 => ?_, ho, fun j => by simp only [hW]; exact hx.word j⟩
  · rw [hw j hj]; simp only [hW]
    by_cases h : j = i
    · subst h; simp only [upd_same]; rw [if_pos (.inr hL), if_pos (.inr (by omega))]
    · simp only [upd_ne _ _ h]
  · simp only [hW]
    by_cases h : j = i
    · subst h; simp only [upd_same] at h1; omega
    · simp only [upd_ne _ _ h] at h1; exact hx.zero j hj h0 h1
def anyJ (y : NodeD) (s : St) (i j : Nat) : Bool := (y.fr.take j).any fun f => decide (s.O f.toNat > s.L i)
theorem anyJ_succ {y : NodeD} {s : St} {i j : Nat} (hj : j < y.fr.length) : anyJ y s i (j + 1) = (anyJ y s i j || decide (s.O y.fr[j].toNat > s.L i)) := by
  unfold anyJ; rw [List.take_succ_eq_append_getElem hj, List.any_append]; simp
theorem anyJ_end {y : NodeD} {s : St} {i j : Nat} (hj : y.fr.length ≤ j) : ((!decide (0 ≤ s.L i)) || anyJ y s i j) = oldS y s i := by
  unfold anyJ oldS
  rw [List.take_of_length_le hj, Bool.or_comm]
  congr 1
  by_cases h : 0 ≤ s.L i
  · simp [h]
  · simp [h]; omega

set_option maxHeartbeats 2000000 in
theorem look_fn {c : EC} {l : List NodeD} {pl : Nat} {x : EX} {s : St} {ds : List DoneD} {many i now : Nat} (hg : Kinds S w0) (hn : Nodes S w0 [] c.na l) (hok : Ok l) (hx : EOk l x s ds) (hi : i < l.length) (h0 : (nd l i).op ≠ 0) (hmany : many ≤ 100000) (hds : ds.length ≤ 100000) :
    Rt Tryd.prog 63 [ptr c.gb, .int .i64 (i : Int), .int .i64 (now : Int)].toArray S w0 (engH c l.length pl x s ds.length many η) (fun _ η' => ∃ es clock da dc dg, η' = engH c l.length pl { x with es := es, clock := clock, da := da, dc := dc, dg := dg } (lookS l now s i) (ds ++ doneS l now s i).length (many + 1) η ∧ EOk l { x with es := es, clock := clock, da := da, dc := dc, dg := dg } (lookS l now s i) (ds ++ doneS l now s i)) := by
  have hF := open_wide
  refine Rt.of (fn := Tryd.f63) Tryd.func63 rfl rfl ?_
  refine T.seq ?_
  refine T.region ?_
  refine TL.box hF rfl rfl (fun b3 => ?_)
  refine TL.nil ?_
  refine TQ.then_n ?_
  refine T.seq ?_
  refine T.region ?_
  refine TL.load hF rfl (by first | exact At.own' (i := 0) rfl rfl | exact At.own' (i := 1) rfl rfl | exact At.own' (i := 2) rfl rfl | exact At.own' (i := 3) rfl rfl | exact At.own' (i := 4) rfl rfl | exact At.own' (i := 5) rfl rfl | exact At.own' (i := 6) rfl rfl | exact At.own' (i := 7) rfl rfl | exact At.own' (i := 8) rfl rfl | exact At.own' (i := 9) rfl rfl | exact At.own' (i := 10) rfl rfl | exact At.own' (i := 11) rfl rfl | exact At.own' (i := 12) rfl rfl) rfl ?_
  refine TL.nilCheck hF rfl rfl ?_
  refine TL.fieldAddr hF rfl rfl ?_
  refine TL.load hF rfl (by first | exact At.own' (i := 0) rfl rfl | exact At.own' (i := 1) rfl rfl | exact At.own' (i := 2) rfl rfl | exact At.own' (i := 3) rfl rfl | exact At.own' (i := 4) rfl rfl | exact At.own' (i := 5) rfl rfl | exact At.own' (i := 6) rfl rfl | exact At.own' (i := 7) rfl rfl | exact At.own' (i := 8) rfl rfl | exact At.own' (i := 9) rfl rfl | exact At.own' (i := 10) rfl rfl | exact At.own' (i := 11) rfl rfl | exact At.own' (i := 12) rfl rfl) rfl ?_
  refine TL.move hF rfl rfl ?_
  have hop0 := hok.op0 i hi
  have hop3 := hok.op3 i hi
  have hfr := hok.fr i hi
  have hfew := hok.few i hi
  have hinp := hok.inp i hi
  have hword := hok.word i hi
  have hmod := hok.mod i hi
  have hrow := hn.frow hi
  have hAt := hn.ro (η' := [(b3, Obj.cells #[ptr c.gb] 89 (0, 0))] :: engH c l.length pl x s ds.length many η) |>.atA hi
  rw [← nd_eq hi] at hop0 hop3 hfr hfew hinp hword hmod hrow hAt
  refine TL.indexAddr hF rfl rfl (hn.ad (i := i) hi) (by omega) (by omega) rfl ?_
  refine TL.loadA hF (nd l i).cells rfl rfl hAt rfl ?_
  refine TL.alloc hF rfl (fun b6 => ?_)
  refine TL.storeAI hF (nd l i).cells 0 rfl rfl rfl rfl (ncells1 _) (by simp [Value.cells, ncl]) ?_
  refine TL.nil ?_
  refine TQ.then_n ?_
  refine T.seq ?_
  refine T.region ?_
  refine TL.load hF rfl (by first | exact At.own' (i := 0) rfl rfl | exact At.own' (i := 1) rfl rfl | exact At.own' (i := 2) rfl rfl | exact At.own' (i := 3) rfl rfl | exact At.own' (i := 4) rfl rfl | exact At.own' (i := 5) rfl rfl | exact At.own' (i := 6) rfl rfl | exact At.own' (i := 7) rfl rfl | exact At.own' (i := 8) rfl rfl | exact At.own' (i := 9) rfl rfl | exact At.own' (i := 10) rfl rfl | exact At.own' (i := 11) rfl rfl | exact At.own' (i := 12) rfl rfl) rfl ?_
  refine TL.nilCheck hF rfl rfl ?_
  refine TL.fieldAddr hF rfl rfl ?_
  refine TL.load hF rfl (by first | exact At.own' (i := 0) rfl rfl | exact At.own' (i := 1) rfl rfl | exact At.own' (i := 2) rfl rfl | exact At.own' (i := 3) rfl rfl | exact At.own' (i := 4) rfl rfl | exact At.own' (i := 5) rfl rfl | exact At.own' (i := 6) rfl rfl | exact At.own' (i := 7) rfl rfl | exact At.own' (i := 8) rfl rfl | exact At.own' (i := 9) rfl rfl | exact At.own' (i := 10) rfl rfl | exact At.own' (i := 11) rfl rfl | exact At.own' (i := 12) rfl rfl) rfl ?_
  refine TL.move hF rfl rfl ?_
  refine TL.build hF rfl (r := KS i) (fun w => by kernel_rfl) rfl ?_
  obtain ⟨m, hm, hw, hv⟩ := hx.get
  refine TL.lookupOk hF (Value.int .i64) (i : Int) rfl rfl (upc _ (upc _ (upc _ List.mem_cons_self))) hm rfl ?_
  rw [hv i hi, hw.some hi h0]
  refine TL.move hF rfl rfl ?_
  refine TL.extract hF rfl rfl rfl ?_
  refine TL.extract hF rfl rfl rfl ?_
  refine TL.assign hF rfl rfl ?_
  refine TL.assign hF rfl rfl ?_
  refine TL.nil ?_
  refine TQ.then_n ?_
  refine T.seq ?_
  refine T.region ?_
  refine TL.move hF rfl rfl ?_
  refine TL.not hF rfl rfl ?_
  refine TL.assign hF rfl rfl ?_
  refine TL.nil ?_
  refine TQ.then_n ?_
  refine T.seq ?_
  refine T.seq ?_
  refine T.region ?_
  refine TL.fieldAddr hF rfl rfl ?_
  refine TL.load hF rfl (by first | exact At.own' (i := 0) rfl rfl | exact At.own' (i := 1) rfl rfl | exact At.own' (i := 2) rfl rfl | exact At.own' (i := 3) rfl rfl | exact At.own' (i := 4) rfl rfl | exact At.own' (i := 5) rfl rfl | exact At.own' (i := 6) rfl rfl | exact At.own' (i := 7) rfl rfl | exact At.own' (i := 8) rfl rfl | exact At.own' (i := 9) rfl rfl | exact At.own' (i := 10) rfl rfl | exact At.own' (i := 11) rfl rfl | exact At.own' (i := 12) rfl rfl) rfl ?_
  refine TL.len hF rfl rfl ?_
  refine TL.move hF rfl rfl ?_
  refine TL.nil ?_
  refine TQ.then_n ?_
  refine T.block ?_
  refine T.loop (ι := Nat) (fun j => j ≤ (nd l i).fr.length) (fun j => [(1, .int .i64 (i : Int)), (2, .int .i64 (now : Int)), (3, ptr b3), (6, ptr b6), (7, .int .i64 (s.W i)), (8, .bool (decide (0 ≤ s.L i))), (9, .bool ((!decide (0 ≤ s.L i)) || anyJ (nd l i) s i j)), (34, .slice (nd l i).fa (nd l i).fr.length (nd l i).fc), (35, .int .i64 ((nd l i).fr.length : Int)), (36, .int .i64 (j : Int))]) (fun _ => [(b6, Obj.cells (nd l i).cells.toArray 55 (0, 0))] :: [(b3, Obj.cells #[ptr c.gb] 89 (0, 0))] :: engH c l.length pl x s ds.length many η) (fun j => (nd l i).fr.length - j) 0 (Nat.zero_le _) ⟨rfl, rfl, rfl, rfl, rfl, rfl, congrArg (fun z => some (Value.bool z)) (by simp [anyJ]), rfl, rfl, rfl, trivial⟩ rfl ?_
  intro j hj
  refine T.seq ?_
  refine T.region ?_
  refine TL.bin hF rfl rfl rfl rfl ?_
  refine TL.nil ?_
  refine TQ.then_n ?_
  refine T.seq ?_
  first | refine T.cond_d rfl (fun ht37 => ?_) (fun ht37 => ?_) | refine T.cond _ rfl (fun ht37 => ?_) (fun ht37 => ?_)
  · refine T.skip ?_
    refine TQ.then_n ?_
    refine T.seq ?_
    refine T.block ?_
    refine T.seq ?_
    refine T.region ?_
    refine TL.indexAddr hF rfl rfl (hrow.adi (i := j) (by rw [List.length_map]; omega)) (by omega) (by omega) rfl ?_
    refine TL.load hF rfl (hrow.ro.int (i := j) (by omega)) rfl ?_
    refine TL.assign hF rfl rfl ?_
    refine TL.nil ?_
    refine TQ.then_n ?_
    have hjl : j < (nd l i).fr.length := by omega
    have hfj := hfr ((nd l i).fr[j]'hjl) (List.getElem_mem _)
    rcases hb : ((!decide (0 ≤ s.L i)) || anyJ (nd l i) s i j) with _ | _
    · refine T.draw ?_
      refine DR.stepV [_] rfl [(9, _, none)] rfl rfl ⟨⟨rfl, by kernel_rfl⟩, trivial⟩ (fun ext => TL.move hF rfl rfl TL.fin) ?_
      refine DR.stepV [_, _] rfl [(40, _, some 0)] rfl rfl ⟨⟨rfl, rfl, rfl⟩, trivial⟩ (fun ext => TL.move hF rfl rfl TL.fin) ?_
      refine DR.stepV [_, _, _] rfl [(3, _, none), (41, _, some 1)] rfl rfl ⟨⟨rfl, by kernel_rfl⟩, ⟨rfl, rfl, rfl⟩, trivial⟩ (fun ext => TL.on rfl rfl rfl rfl <| TL.load hF rfl (by first | exact At.own' (i := 0) rfl rfl | exact At.own' (i := 1) rfl rfl | exact At.own' (i := 2) rfl rfl | exact At.own' (i := 3) rfl rfl | exact At.own' (i := 4) rfl rfl | exact At.own' (i := 5) rfl rfl | exact At.own' (i := 6) rfl rfl | exact At.own' (i := 7) rfl rfl | exact At.own' (i := 8) rfl rfl | exact At.own' (i := 9) rfl rfl | exact At.own' (i := 10) rfl rfl | exact At.own' (i := 11) rfl rfl | exact At.own' (i := 12) rfl rfl) rfl TL.fin) ?_
      refine DR.stepV [_, _, _, _] rfl [(42, _, some 2), (41, _, some 1)] rfl rfl ⟨⟨rfl, rfl, rfl⟩, ⟨rfl, rfl, rfl⟩, trivial⟩ (fun ext => TL.on rfl rfl rfl rfl <| TL.nilCheck hF rfl rfl TL.fin) ?_
      refine DR.stepV [_, _, _, _, _] rfl [(43, _, some 3), (41, _, some 1)] rfl rfl ⟨⟨rfl, rfl, rfl⟩, ⟨rfl, rfl, rfl⟩, trivial⟩ (fun ext => TL.on rfl rfl rfl rfl <| TL.fieldAddr hF rfl rfl TL.fin) ?_
      refine DR.stepV [_, _, _, _, _, _] rfl [(44, _, some 4), (41, _, some 1)] rfl rfl ⟨⟨rfl, rfl, rfl⟩, ⟨rfl, rfl, rfl⟩, trivial⟩ (fun ext => TL.on rfl rfl rfl rfl <| TL.load hF rfl (by first | exact At.own' (i := 0) rfl rfl | exact At.own' (i := 1) rfl rfl | exact At.own' (i := 2) rfl rfl | exact At.own' (i := 3) rfl rfl | exact At.own' (i := 4) rfl rfl | exact At.own' (i := 5) rfl rfl | exact At.own' (i := 6) rfl rfl | exact At.own' (i := 7) rfl rfl | exact At.own' (i := 8) rfl rfl | exact At.own' (i := 9) rfl rfl | exact At.own' (i := 10) rfl rfl | exact At.own' (i := 11) rfl rfl | exact At.own' (i := 12) rfl rfl) rfl TL.fin) ?_
      refine DR.stepV [_, _, _, _, _, _, _] rfl [(11, _, none), (41, _, some 1)] rfl rfl ⟨⟨rfl, by kernel_rfl⟩, ⟨rfl, rfl, rfl⟩, trivial⟩ (fun ext => TL.on rfl rfl rfl rfl <| TL.move hF rfl rfl TL.fin) ?_
      refine DR.stepV [_, _, _, _, _, _, _, _] rfl [(45, _, some 5), (46, _, some 6), (41, _, some 1)] rfl rfl ⟨⟨rfl, rfl, rfl⟩, ⟨rfl, rfl, rfl⟩, ⟨rfl, rfl, rfl⟩, trivial⟩ (fun ext => TL.on rfl rfl rfl rfl <| TL.indexAddr hF rfl rfl ⟨_, rfl, rfl⟩ (by omega) (by omega) rfl TL.fin) ?_
      refine DR.stepV [_, _, _, _, _, _, _, _, _] rfl [(47, _, some 7), (41, _, some 1)] rfl rfl ⟨⟨rfl, rfl, rfl⟩, ⟨rfl, rfl, rfl⟩, trivial⟩ (fun ext => TL.on rfl rfl rfl rfl <| TL.load hF rfl (iseg_at (f := s.O) (n := l.length) (b := c.ob) (j := ((nd l i).fr[j]'hjl).toNat) (upc _ (upc _ (upc _ (upc _ (upc _ List.mem_cons_self))))) (by omega)) rfl TL.fin) ?_
      refine DR.stepV [_, _, _, _, _, _, _, _, _, _] rfl [(3, _, none), (41, _, some 1)] rfl rfl ⟨⟨rfl, by kernel_rfl⟩, ⟨rfl, rfl, rfl⟩, trivial⟩ (fun ext => TL.on rfl rfl rfl rfl <| TL.load hF rfl (by first | exact At.own' (i := 0) rfl rfl | exact At.own' (i := 1) rfl rfl | exact At.own' (i := 2) rfl rfl | exact At.own' (i := 3) rfl rfl | exact At.own' (i := 4) rfl rfl | exact At.own' (i := 5) rfl rfl | exact At.own' (i := 6) rfl rfl | exact At.own' (i := 7) rfl rfl | exact At.own' (i := 8) rfl rfl | exact At.own' (i := 9) rfl rfl | exact At.own' (i := 10) rfl rfl | exact At.own' (i := 11) rfl rfl | exact At.own' (i := 12) rfl rfl) rfl TL.fin) ?_
      refine DR.stepV [_, _, _, _, _, _, _, _, _, _, _] rfl [(49, _, some 9), (41, _, some 1)] rfl rfl ⟨⟨rfl, rfl, rfl⟩, ⟨rfl, rfl, rfl⟩, trivial⟩ (fun ext => TL.on rfl rfl rfl rfl <| TL.nilCheck hF rfl rfl TL.fin) ?_
      refine DR.stepV [_, _, _, _, _, _, _, _, _, _, _, _] rfl [(50, _, some 10), (41, _, some 1)] rfl rfl ⟨⟨rfl, rfl, rfl⟩, ⟨rfl, rfl, rfl⟩, trivial⟩ (fun ext => TL.on rfl rfl rfl rfl <| TL.fieldAddr hF rfl rfl TL.fin) ?_
      refine DR.stepV [_, _, _, _, _, _, _, _, _, _, _, _, _] rfl [(51, _, some 11), (41, _, some 1)] rfl rfl ⟨⟨rfl, rfl, rfl⟩, ⟨rfl, rfl, rfl⟩, trivial⟩ (fun ext => TL.on rfl rfl rfl rfl <| TL.load hF rfl (by first | exact At.own' (i := 0) rfl rfl | exact At.own' (i := 1) rfl rfl | exact At.own' (i := 2) rfl rfl | exact At.own' (i := 3) rfl rfl | exact At.own' (i := 4) rfl rfl | exact At.own' (i := 5) rfl rfl | exact At.own' (i := 6) rfl rfl | exact At.own' (i := 7) rfl rfl | exact At.own' (i := 8) rfl rfl | exact At.own' (i := 9) rfl rfl | exact At.own' (i := 10) rfl rfl | exact At.own' (i := 11) rfl rfl | exact At.own' (i := 12) rfl rfl) rfl TL.fin) ?_
      refine DR.stepV [_, _, _, _, _, _, _, _, _, _, _, _, _, _] rfl [(1, _, none), (41, _, some 1)] rfl rfl ⟨⟨rfl, by kernel_rfl⟩, ⟨rfl, rfl, rfl⟩, trivial⟩ (fun ext => TL.on rfl rfl rfl rfl <| TL.move hF rfl rfl TL.fin) ?_
      refine DR.stepV [_, _, _, _, _, _, _, _, _, _, _, _, _, _, _] rfl [(52, _, some 12), (53, _, some 13), (41, _, some 1)] rfl rfl ⟨⟨rfl, rfl, rfl⟩, ⟨rfl, rfl, rfl⟩, ⟨rfl, rfl, rfl⟩, trivial⟩ (fun ext => TL.on rfl rfl rfl rfl <| TL.indexAddr hF rfl rfl ⟨_, rfl, rfl⟩ (by omega) (by omega) rfl TL.fin) ?_
      refine DR.stepV [_, _, _, _, _, _, _, _, _, _, _, _, _, _, _, _] rfl [(54, _, some 14), (41, _, some 1)] rfl rfl ⟨⟨rfl, rfl, rfl⟩, ⟨rfl, rfl, rfl⟩, trivial⟩ (fun ext => TL.on rfl rfl rfl rfl <| TL.load hF rfl (iseg_at (f := s.L) (n := l.length) (b := c.lb) (j := i) (upc _ (upc _ (upc _ (upc _ List.mem_cons_self)))) hi) rfl TL.fin) ?_
      refine DR.done [(55, _), (54, _), (53, _), (52, _), (51, _), (50, _), (49, _), (48, _), (47, _), (46, _), (45, _), (44, _), (43, _), (42, _), (41, _), (40, _)] [_, _, _] mixed (by kernel_rfl) (by kernel_rfl) (by kernel_rfl) rfl rfl ?_
      refine TL.on rfl rfl rfl rfl ?_
      refine TL.bin hF rfl rfl rfl rfl ?_
      refine TL.pickF hF rfl rfl rfl rfl ?_
      refine TL.assign hF rfl rfl ?_
      refine TL.nil ?_
      refine TQ.block_n ?_
      refine TQ.then_n ?_
      refine T.region ?_
      refine TL.add hF rfl rfl (by omega) (by omega) rfl ?_
      refine TL.move hF rfl rfl ?_
      refine TL.nil ?_
      refine TQ.round (j + 1) (by omega) (by omega) ⟨rfl, rfl, rfl, rfl, rfl, rfl, congrArg (fun z => some (Value.bool z)) (by rw [anyJ_succ hjl, ← Bool.or_assoc, hb, Bool.false_or]), rfl, rfl, rfl, trivial⟩ rfl
    · refine T.draw ?_
      refine DR.stepV [_] rfl [(9, _, none)] rfl rfl ⟨⟨rfl, by kernel_rfl⟩, trivial⟩ (fun ext => TL.move hF rfl rfl TL.fin) ?_
      refine DR.stepV [_, _] rfl [(40, _, some 0)] rfl rfl ⟨⟨rfl, rfl, rfl⟩, trivial⟩ (fun ext => TL.move hF rfl rfl TL.fin) ?_
      refine DR.stepV [_, _, _] rfl [(3, _, none), (41, _, some 1)] rfl rfl ⟨⟨rfl, by kernel_rfl⟩, ⟨rfl, rfl, rfl⟩, trivial⟩ (fun ext => TL.off hF rfl rfl rfl rfl rfl TL.fin) ?_
      refine DR.stepV [_, _, _, _] rfl [(42, _, some 2), (41, _, some 1)] rfl rfl ⟨⟨rfl, rfl, rfl⟩, ⟨rfl, rfl, rfl⟩, trivial⟩ (fun ext => TL.off hF rfl rfl rfl rfl rfl TL.fin) ?_
      refine DR.stepV [_, _, _, _, _] rfl [(43, _, some 3), (41, _, some 1)] rfl rfl ⟨⟨rfl, rfl, rfl⟩, ⟨rfl, rfl, rfl⟩, trivial⟩ (fun ext => TL.off hF rfl rfl rfl rfl rfl TL.fin) ?_
      refine DR.stepV [_, _, _, _, _, _] rfl [(44, _, some 4), (41, _, some 1)] rfl rfl ⟨⟨rfl, rfl, rfl⟩, ⟨rfl, rfl, rfl⟩, trivial⟩ (fun ext => TL.off hF rfl rfl rfl rfl rfl TL.fin) ?_
      refine DR.stepV [_, _, _, _, _, _, _] rfl [(11, _, none), (41, _, some 1)] rfl rfl ⟨⟨rfl, by kernel_rfl⟩, ⟨rfl, rfl, rfl⟩, trivial⟩ (fun ext => TL.off hF rfl rfl rfl rfl rfl TL.fin) ?_
      refine DR.stepV [_, _, _, _, _, _, _, _] rfl [(45, _, some 5), (46, _, some 6), (41, _, some 1)] rfl rfl ⟨⟨rfl, rfl, rfl⟩, ⟨rfl, rfl, rfl⟩, ⟨rfl, rfl, rfl⟩, trivial⟩ (fun ext => TL.off hF rfl rfl rfl rfl rfl TL.fin) ?_
      refine DR.stepV [_, _, _, _, _, _, _, _, _] rfl [(47, _, some 7), (41, _, some 1)] rfl rfl ⟨⟨rfl, rfl, rfl⟩, ⟨rfl, rfl, rfl⟩, trivial⟩ (fun ext => TL.off hF rfl rfl rfl rfl rfl TL.fin) ?_
      refine DR.stepV [_, _, _, _, _, _, _, _, _, _] rfl [(3, _, none), (41, _, some 1)] rfl rfl ⟨⟨rfl, by kernel_rfl⟩, ⟨rfl, rfl, rfl⟩, trivial⟩ (fun ext => TL.off hF rfl rfl rfl rfl rfl TL.fin) ?_
      refine DR.stepV [_, _, _, _, _, _, _, _, _, _, _] rfl [(49, _, some 9), (41, _, some 1)] rfl rfl ⟨⟨rfl, rfl, rfl⟩, ⟨rfl, rfl, rfl⟩, trivial⟩ (fun ext => TL.off hF rfl rfl rfl rfl rfl TL.fin) ?_
      refine DR.stepV [_, _, _, _, _, _, _, _, _, _, _, _] rfl [(50, _, some 10), (41, _, some 1)] rfl rfl ⟨⟨rfl, rfl, rfl⟩, ⟨rfl, rfl, rfl⟩, trivial⟩ (fun ext => TL.off hF rfl rfl rfl rfl rfl TL.fin) ?_
      refine DR.stepV [_, _, _, _, _, _, _, _, _, _, _, _, _] rfl [(51, _, some 11), (41, _, some 1)] rfl rfl ⟨⟨rfl, rfl, rfl⟩, ⟨rfl, rfl, rfl⟩, trivial⟩ (fun ext => TL.off hF rfl rfl rfl rfl rfl TL.fin) ?_
      refine DR.stepV [_, _, _, _, _, _, _, _, _, _, _, _, _, _] rfl [(1, _, none), (41, _, some 1)] rfl rfl ⟨⟨rfl, by kernel_rfl⟩, ⟨rfl, rfl, rfl⟩, trivial⟩ (fun ext => TL.off hF rfl rfl rfl rfl rfl TL.fin) ?_
      refine DR.stepV [_, _, _, _, _, _, _, _, _, _, _, _, _, _, _] rfl [(52, _, some 12), (53, _, some 13), (41, _, some 1)] rfl rfl ⟨⟨rfl, rfl, rfl⟩, ⟨rfl, rfl, rfl⟩, ⟨rfl, rfl, rfl⟩, trivial⟩ (fun ext => TL.off hF rfl rfl rfl rfl rfl TL.fin) ?_
      refine DR.stepV [_, _, _, _, _, _, _, _, _, _, _, _, _, _, _, _] rfl [(54, _, some 14), (41, _, some 1)] rfl rfl ⟨⟨rfl, rfl, rfl⟩, ⟨rfl, rfl, rfl⟩, trivial⟩ (fun ext => TL.off hF rfl rfl rfl rfl rfl TL.fin) ?_
      refine DR.done [(55, _), (54, _), (53, _), (52, _), (51, _), (50, _), (49, _), (48, _), (47, _), (46, _), (45, _), (44, _), (43, _), (42, _), (41, _), (40, _)] [_, _, _] mixed (by kernel_rfl) (by kernel_rfl) (by kernel_rfl) rfl rfl ?_
      refine TL.off hF rfl rfl rfl rfl rfl ?_
      refine TL.pickT hF rfl rfl rfl rfl ?_
      refine TL.assign hF rfl rfl ?_
      refine TL.nil ?_
      refine TQ.block_n ?_
      refine TQ.then_n ?_
      refine T.region ?_
      refine TL.add hF rfl rfl (by omega) (by omega) rfl ?_
      refine TL.move hF rfl rfl ?_
      refine TL.nil ?_
      refine TQ.round (j + 1) (by omega) (by omega) ⟨rfl, rfl, rfl, rfl, rfl, rfl, congrArg (fun z => some (Value.bool z)) (by rw [anyJ_succ hjl, ← Bool.or_assoc, hb]; rfl), rfl, rfl, rfl, trivial⟩ rfl
  · refine T.exit ?_
    refine TQ.then_x ?_
    refine TQ.then_x ?_
    refine TQ.block_x ?_
    refine TQ.then_n ?_
    refine T.seq ?_
    refine T.region ?_
    refine TL.load hF rfl (by first | exact At.own' (i := 0) rfl rfl | exact At.own' (i := 1) rfl rfl | exact At.own' (i := 2) rfl rfl | exact At.own' (i := 3) rfl rfl | exact At.own' (i := 4) rfl rfl | exact At.own' (i := 5) rfl rfl | exact At.own' (i := 6) rfl rfl | exact At.own' (i := 7) rfl rfl | exact At.own' (i := 8) rfl rfl | exact At.own' (i := 9) rfl rfl | exact At.own' (i := 10) rfl rfl | exact At.own' (i := 11) rfl rfl | exact At.own' (i := 12) rfl rfl) rfl ?_
    refine TL.nilCheck hF rfl rfl ?_
    refine TL.fieldAddr hF rfl rfl ?_
    refine TL.load hF rfl (by first | exact At.own' (i := 0) rfl rfl | exact At.own' (i := 1) rfl rfl | exact At.own' (i := 2) rfl rfl | exact At.own' (i := 3) rfl rfl | exact At.own' (i := 4) rfl rfl | exact At.own' (i := 5) rfl rfl | exact At.own' (i := 6) rfl rfl | exact At.own' (i := 7) rfl rfl | exact At.own' (i := 8) rfl rfl | exact At.own' (i := 9) rfl rfl | exact At.own' (i := 10) rfl rfl | exact At.own' (i := 11) rfl rfl | exact At.own' (i := 12) rfl rfl) rfl ?_
    refine TL.move hF rfl rfl ?_
    refine TL.move hF rfl rfl ?_
    refine TL.indexAddr hF rfl rfl ⟨_, rfl, rfl⟩ (by omega) (by omega) rfl ?_
    refine TL.storeI hF 4 rfl rfl rfl rfl (by simp [intC_len]; omega) ?_
    refine TL.nil ?_
    refine TQ.then_n ?_
    refine T.seq ?_
    refine T.region ?_
    refine TL.load hF rfl (by first | exact At.own' (i := 0) rfl rfl | exact At.own' (i := 1) rfl rfl | exact At.own' (i := 2) rfl rfl | exact At.own' (i := 3) rfl rfl | exact At.own' (i := 4) rfl rfl | exact At.own' (i := 5) rfl rfl | exact At.own' (i := 6) rfl rfl | exact At.own' (i := 7) rfl rfl | exact At.own' (i := 8) rfl rfl | exact At.own' (i := 9) rfl rfl | exact At.own' (i := 10) rfl rfl | exact At.own' (i := 11) rfl rfl | exact At.own' (i := 12) rfl rfl) rfl ?_
    refine TL.nilCheck hF rfl rfl ?_
    refine TL.fieldAddr hF rfl rfl ?_
    refine TL.load hF rfl (by first | exact At.own' (i := 0) rfl rfl | exact At.own' (i := 1) rfl rfl | exact At.own' (i := 2) rfl rfl | exact At.own' (i := 3) rfl rfl | exact At.own' (i := 4) rfl rfl | exact At.own' (i := 5) rfl rfl | exact At.own' (i := 6) rfl rfl | exact At.own' (i := 7) rfl rfl | exact At.own' (i := 8) rfl rfl | exact At.own' (i := 9) rfl rfl | exact At.own' (i := 10) rfl rfl | exact At.own' (i := 11) rfl rfl | exact At.own' (i := 12) rfl rfl) rfl ?_
    refine TL.add hF rfl rfl (by omega) (by omega) rfl ?_
    refine TL.nilCheck hF rfl rfl ?_
    refine TL.fieldAddr hF rfl rfl ?_
    refine TL.storeI hF 2 rfl rfl rfl rfl (by simp) ?_
    refine TL.nil ?_
    refine TQ.then_n ?_
    refine T.seq ?_
    refine T.seq ?_
    refine T.region ?_
    refine TL.heap (η' := [(b6, Obj.cells (nd l i).cells.toArray 55 (0, 0))] :: [(b3, Obj.cells #[ptr c.gb] 89 (0, 0))] :: engH c l.length pl x { s with L := upd s.L i now } ds.length (many + 1) η) (congrArg (fun z : Seg => [(b6, Obj.cells (nd l i).cells.toArray 55 (0, 0))] :: [(b3, Obj.cells #[ptr c.gb] 89 (0, 0))] :: [(c.gb, Obj.cells (engV c l.length pl x ds.length (many + 1)) 88 (0, 0))] :: [(c.mb, Obj.map x.es x.clock)] :: z :: iseg c.ob l.length s.O :: x.dg :: η) (iseg_upd (b := c.lb) (n := l.length) (j := i) (f := s.L) (v := (now : Int)) (by simp))) ?_
    have hold0 : ((!decide (0 ≤ s.L i)) || anyJ (nd l i) s i j) = oldS (nd l i) s i := anyJ_end (by omega)
    rw [hold0]
    refine TL.move hF rfl rfl ?_
    refine TL.not hF rfl rfl ?_
    refine TL.nil ?_
    refine TQ.then_n ?_
    refine T.cond _ rfl (fun hold => ?_) (fun hold => ?_)
    all_goals simp only [Bool.not_eq_true', Bool.not_eq_false'] at hold
    · refine T.ret ?_
      refine TQ.then_r ?_
      refine TQ.pop ?_
      refine TQ.pop ?_
      refine TQ.rets [] _ rfl rfl rfl ?_
      have hL : 0 ≤ s.L i := by
        unfold oldS at hold; simp only [Bool.or_eq_false_iff, decide_eq_false_iff_not] at hold; omega
      have e1 : lookS l now s i = ⟨s.W, s.O, upd s.L i now, s.used + 1⟩ := by unfold lookS; rw [if_neg (by simp [hold])]
      have e2 : doneS l now s i = [] := by unfold doneS; rw [if_neg (by simp [hold])]
      rw [e1, e2, List.append_nil]
      exact ⟨x.es, x.clock, x.da, x.dc, x.dg, rfl, hx.keep hL hx.done s.W s.O (fun _ => rfl) _⟩
    · refine T.skip ?_
      refine TQ.then_n ?_
      refine T.seq ?_
      have hne : 1 ≤ (nd l i).fr.length := by
        rcases Nat.eq_zero_or_pos (nd l i).fr.length with h | h
        · exact absurd (hinp.2 (List.length_eq_zero_iff.1 h)) h0
        · exact h
      have hcr : -2147483648 ≤ comp (nd l i) s.W ∧ comp (nd l i) s.W ≤ 2147483647 := comp_range (fun f _ => hx.word f.toNat) hword (fun h1 h2 => hmod (by omega))
      refine T.drawH 12 mixed ?_
      refine DH.pure (i := 0) [(6, _, none)] rfl rfl rfl rfl ⟨⟨rfl, by kernel_rfl⟩, trivial⟩ (fun _ ext => TL.fieldAddr hF rfl rfl TL.fin) ?_
      refine DH.read (i := 1) [(75, _, some 0)] rfl rfl rfl rfl ⟨⟨rfl, rfl, rfl⟩, trivial⟩ (fun ext => TL.load hF rfl (by first | exact At.own' (i := 0) rfl rfl | exact At.own' (i := 1) rfl rfl | exact At.own' (i := 2) rfl rfl | exact At.own' (i := 3) rfl rfl | exact At.own' (i := 4) rfl rfl | exact At.own' (i := 5) rfl rfl | exact At.own' (i := 6) rfl rfl | exact At.own' (i := 7) rfl rfl | exact At.own' (i := 8) rfl rfl | exact At.own' (i := 9) rfl rfl | exact At.own' (i := 10) rfl rfl | exact At.own' (i := 11) rfl rfl | exact At.own' (i := 12) rfl rfl) rfl TL.fin) ?_
      refine DH.pure (i := 2) [(76, _, some 1)] rfl rfl rfl rfl ⟨⟨rfl, rfl, rfl⟩, trivial⟩ (fun _ ext => TL.indexAddrA hF rfl rfl (by omega) (by omega) rfl TL.fin) ?_
      refine DH.pure (i := 3) [(77, _, some 2)] rfl rfl rfl rfl ⟨⟨rfl, rfl, rfl⟩, trivial⟩ (fun _ ext => TL.fieldAddr hF rfl rfl TL.fin) ?_
      refine DH.pure (i := 4) [(78, _, some 3)] rfl rfl rfl rfl ⟨⟨rfl, rfl, rfl⟩, trivial⟩ (fun _ ext => TL.load hF rfl (by rw [Nat.zero_add]; exact hg.at (o := (nd l i).op.toNat) (by omega) 2 rfl) rfl TL.fin) ?_
      refine DH.read (i := 5) [(6, _, none)] rfl rfl rfl rfl ⟨⟨rfl, by kernel_rfl⟩, trivial⟩ (fun ext => TL.loadA hF (nd l i).cells rfl rfl (by first | exact own_list (i := 0) (cs := (nd l i).cells) rfl | exact own_list (i := 1) (cs := (nd l i).cells) rfl) rfl TL.fin) ?_
      refine DH.pure (i := 6) [(80, _, some 5)] rfl rfl rfl rfl ⟨⟨rfl, rfl, rfl⟩, trivial⟩ (fun _ ext => TL.build hF rfl (r := .agg (nd l i).cells.toArray) (fun w => by kernel_rfl) rfl TL.fin) ?_
      refine DH.pure (i := 7) [(6, _, none)] rfl rfl rfl rfl ⟨⟨rfl, by kernel_rfl⟩, trivial⟩ (fun _ ext => TL.fieldAddr hF rfl rfl TL.fin) ?_
      refine DH.read (i := 8) [(82, _, some 7)] rfl rfl rfl rfl ⟨⟨rfl, rfl, rfl⟩, trivial⟩ (fun ext => TL.load hF rfl (by first | exact At.own' (i := 0) rfl rfl | exact At.own' (i := 1) rfl rfl | exact At.own' (i := 2) rfl rfl | exact At.own' (i := 3) rfl rfl | exact At.own' (i := 4) rfl rfl | exact At.own' (i := 5) rfl rfl | exact At.own' (i := 6) rfl rfl | exact At.own' (i := 7) rfl rfl | exact At.own' (i := 8) rfl rfl | exact At.own' (i := 9) rfl rfl | exact At.own' (i := 10) rfl rfl | exact At.own' (i := 11) rfl rfl | exact At.own' (i := 12) rfl rfl) rfl TL.fin) ?_
      refine DH.pure (i := 9) [(83, _, some 8)] rfl rfl rfl rfl ⟨⟨rfl, rfl, rfl⟩, trivial⟩ (fun _ ext => TL.len hF rfl rfl TL.fin) ?_
      refine DH.pure (i := 10) [(3, _, none), (6, _, none)] rfl rfl rfl rfl ⟨⟨rfl, by kernel_rfl⟩, ⟨rfl, by kernel_rfl⟩, trivial⟩ (fun _ ext => TL.makeFunc hF rfl rfl rfl TL.fin) ?_
      refine DH.k1 (by kernel_rfl) (by kernel_rfl) (by kernel_rfl) (by kernel_rfl) (HBK.mk (h := 11) [1, 5] [(84, _, some 9), (85, _, some 10)] rfl rfl rfl ⟨⟨rfl, rfl, rfl⟩, ⟨rfl, rfl, rfl⟩, trivial⟩ (by kernel_rfl) (fun ext => ?_))
      refine TL.call hF (listed_fn (g := 70) (cap := #[ptr b3, ptr b6]) (F := fun j => s.W ((nd l i).fr.getD j 0).toNat) (by omega) (fun j hj q => lookW_fn (c := c) (l := l) (pl := pl) (x := x) (s := s) (ds := ds) (dn := ds.length) (many := many + 1) (y := (nd l i)) hx hrow hj (by omega) (fun f hf => by have := hfr f hf; omega) (upc _ (upc _ List.mem_cons_self)) (upc _ (upc _ (upc _ List.mem_cons_self))) (upc _ (upc _ (upc _ (upc _ List.mem_cons_self)))) (upc _ List.mem_cons_self))) rfl rfl ?_
      rintro _ _ ⟨bL, rfl, rfl⟩
      refine TL.finK ⟨⟨_, rfl, _, _, [(75, _, some 0)], rfl, rfl, ⟨⟨rfl, rfl, rfl⟩, trivial⟩, fun ext => TL.load hF rfl (by first | exact At.own' (i := 0) rfl rfl | exact At.own' (i := 1) rfl rfl | exact At.own' (i := 2) rfl rfl | exact At.own' (i := 3) rfl rfl | exact At.own' (i := 4) rfl rfl | exact At.own' (i := 5) rfl rfl | exact At.own' (i := 6) rfl rfl | exact At.own' (i := 7) rfl rfl | exact At.own' (i := 8) rfl rfl | exact At.own' (i := 9) rfl rfl | exact At.own' (i := 10) rfl rfl | exact At.own' (i := 11) rfl rfl | exact At.own' (i := 12) rfl rfl) rfl TL.fin⟩, ⟨_, rfl, _, _, [(6, _, none)], rfl, rfl, ⟨⟨rfl, by kernel_rfl⟩, trivial⟩, fun ext => TL.loadA hF (nd l i).cells rfl rfl (by first | exact own_list (i := 0) (cs := (nd l i).cells) rfl | exact own_list (i := 1) (cs := (nd l i).cells) rfl) rfl TL.fin⟩, trivial⟩ ?_
      refine DH.done [(86, _), (85, _), (84, _), (83, _), (82, _), (81, _), (80, _), (79, _), (78, _), (77, _), (76, _), (75, _)] [_, _] (by kernel_rfl) (by kernel_rfl) (by kernel_rfl) (by kernel_rfl) rfl rfl ?_
      refine TL.call hF (makes_fn' (x := (nd l i)) (listed_osl (b := bL) (nd l i).fr s.W) ⟨by omega, hop3⟩ (by rw [List.length_map]; omega) (by rw [List.length_map]; omega) (fun f hf => by obtain ⟨g, _, rfl⟩ := List.mem_map.1 hf; exact hx.word g.toNat) hword hmod) (by simp [callOf, List.length_map] <;> rfl) rfl ?_
      rintro _ _ ⟨rfl, rfl⟩
      rw [← comp_L]
      refine TL.assign hF rfl rfl ?_
      refine TL.nil ?_
      refine TQ.then_n ?_
      refine T.seq ?_
      refine T.region ?_
      refine TL.move hF rfl rfl ?_
      refine TL.not hF rfl rfl ?_
      refine TL.move hF rfl rfl ?_
      refine TL.gb (t := 90) rfl (fun g13_90 => ?_) (fun g13_90 => ?_)
      · refine TL.off hF rfl rfl rfl g13_90 rfl ?_
        refine TL.off hF rfl rfl rfl g13_90 rfl ?_
        refine TL.off hF rfl rfl rfl g13_90 rfl ?_
        refine TL.pickT hF rfl g13_90 rfl rfl ?_
        refine TL.assign hF rfl rfl ?_
        refine TL.nil ?_
        refine TQ.then_n ?_
        refine T.seq ?_
        refine T.seq ?_
        refine T.region ?_
        refine TL.move hF rfl rfl ?_
        refine TL.nil ?_
        refine TQ.then_n ?_
        refine T.cond_t rfl rfl ?_
        refine T.drawH 16 mixed ?_
        refine DH.read (i := 0) [(3, _, none)] rfl rfl rfl rfl ⟨⟨rfl, by kernel_rfl⟩, trivial⟩ (fun ext => TL.load hF rfl (by first | exact At.own' (i := 0) rfl rfl | exact At.own' (i := 1) rfl rfl | exact At.own' (i := 2) rfl rfl | exact At.own' (i := 3) rfl rfl | exact At.own' (i := 4) rfl rfl | exact At.own' (i := 5) rfl rfl | exact At.own' (i := 6) rfl rfl | exact At.own' (i := 7) rfl rfl | exact At.own' (i := 8) rfl rfl | exact At.own' (i := 9) rfl rfl | exact At.own' (i := 10) rfl rfl | exact At.own' (i := 11) rfl rfl | exact At.own' (i := 12) rfl rfl) rfl TL.fin) ?_
        refine DH.pure (i := 1) [(96, _, some 0)] rfl rfl rfl rfl ⟨⟨rfl, rfl, rfl⟩, trivial⟩ (fun _ ext => TL.nilCheck hF rfl rfl TL.fin) ?_
        refine DH.pure (i := 2) [(97, _, some 1)] rfl rfl rfl rfl ⟨⟨rfl, rfl, rfl⟩, trivial⟩ (fun _ ext => TL.fieldAddr hF rfl rfl TL.fin) ?_
        refine DH.read (i := 3) [(98, _, some 2)] rfl rfl rfl rfl ⟨⟨rfl, rfl, rfl⟩, trivial⟩ (fun ext => TL.load hF rfl (by first | exact At.own' (i := 0) rfl rfl | exact At.own' (i := 1) rfl rfl | exact At.own' (i := 2) rfl rfl | exact At.own' (i := 3) rfl rfl | exact At.own' (i := 4) rfl rfl | exact At.own' (i := 5) rfl rfl | exact At.own' (i := 6) rfl rfl | exact At.own' (i := 7) rfl rfl | exact At.own' (i := 8) rfl rfl | exact At.own' (i := 9) rfl rfl | exact At.own' (i := 10) rfl rfl | exact At.own' (i := 11) rfl rfl | exact At.own' (i := 12) rfl rfl) rfl TL.fin) ?_
        refine DH.pure (i := 4) [(1, _, none)] rfl rfl rfl rfl ⟨⟨rfl, by kernel_rfl⟩, trivial⟩ (fun _ ext => TL.move hF rfl rfl TL.fin) ?_
        refine DH.pure (i := 5) [(100, _, some 4)] rfl rfl rfl rfl ⟨⟨rfl, rfl, rfl⟩, trivial⟩ (fun _ ext => TL.build hF rfl (r := KS i) (fun w => by kernel_rfl) rfl TL.fin) ?_
        refine DH.read (i := 6) [(3, _, none)] rfl rfl rfl rfl ⟨⟨rfl, by kernel_rfl⟩, trivial⟩ (fun ext => TL.load hF rfl (by first | exact At.own' (i := 0) rfl rfl | exact At.own' (i := 1) rfl rfl | exact At.own' (i := 2) rfl rfl | exact At.own' (i := 3) rfl rfl | exact At.own' (i := 4) rfl rfl | exact At.own' (i := 5) rfl rfl | exact At.own' (i := 6) rfl rfl | exact At.own' (i := 7) rfl rfl | exact At.own' (i := 8) rfl rfl | exact At.own' (i := 9) rfl rfl | exact At.own' (i := 10) rfl rfl | exact At.own' (i := 11) rfl rfl | exact At.own' (i := 12) rfl rfl) rfl TL.fin) ?_
        refine DH.pure (i := 7) [(102, _, some 6)] rfl rfl rfl rfl ⟨⟨rfl, rfl, rfl⟩, trivial⟩ (fun _ ext => TL.nilCheck hF rfl rfl TL.fin) ?_
        refine DH.pure (i := 8) [(103, _, some 7)] rfl rfl rfl rfl ⟨⟨rfl, rfl, rfl⟩, trivial⟩ (fun _ ext => TL.fieldAddr hF rfl rfl TL.fin) ?_
        refine DH.read (i := 9) [(104, _, some 8)] rfl rfl rfl rfl ⟨⟨rfl, rfl, rfl⟩, trivial⟩ (fun ext => TL.load hF rfl (by first | exact At.own' (i := 0) rfl rfl | exact At.own' (i := 1) rfl rfl | exact At.own' (i := 2) rfl rfl | exact At.own' (i := 3) rfl rfl | exact At.own' (i := 4) rfl rfl | exact At.own' (i := 5) rfl rfl | exact At.own' (i := 6) rfl rfl | exact At.own' (i := 7) rfl rfl | exact At.own' (i := 8) rfl rfl | exact At.own' (i := 9) rfl rfl | exact At.own' (i := 10) rfl rfl | exact At.own' (i := 11) rfl rfl | exact At.own' (i := 12) rfl rfl) rfl TL.fin) ?_
        refine DH.pure (i := 10) [(1, _, none)] rfl rfl rfl rfl ⟨⟨rfl, by kernel_rfl⟩, trivial⟩ (fun _ ext => TL.move hF rfl rfl TL.fin) ?_
        refine DH.pure (i := 11) [(12, _, none)] rfl rfl rfl rfl ⟨⟨rfl, by kernel_rfl⟩, trivial⟩ (fun _ ext => TL.move hF rfl rfl TL.fin) ?_
        refine DH.pure (i := 12) [(2, _, none)] rfl rfl rfl rfl ⟨⟨rfl, by kernel_rfl⟩, trivial⟩ (fun _ ext => TL.move hF rfl rfl TL.fin) ?_
        refine DH.heavy 13 [(99, _, some 3), (101, _, some 5)] (by kernel_rfl) (by kernel_rfl) (by kernel_rfl) (by kernel_rfl) rfl rfl rfl rfl ⟨⟨rfl, rfl, rfl⟩, ⟨rfl, rfl, rfl⟩, trivial⟩ (by kernel_rfl) (fun ext => ?_)
        refine TL.mapEntry hF 3 (Value.int .i64) 0 (i : Int) rfl rfl rfl rfl hm rfl (fun m109 es109 clock109 born109 u109 hor109 hput109 hm109 hent109 => ?_)
        refine TL.finD ?_
        refine DH.pure (i := 14) [(109, _, some 13)] rfl rfl rfl rfl ⟨⟨rfl, rfl, rfl⟩, trivial⟩ (fun _ ext => TL.extract hF rfl rfl rfl TL.fin) ?_
        refine DH.k1 (by kernel_rfl) (by kernel_rfl) (by kernel_rfl) (by kernel_rfl) (HBK.mk (h := 15) [] [(99, _, some 3), (110, _, some 14), (107, _, some 11)] rfl rfl rfl ⟨⟨rfl, rfl, rfl⟩, ⟨rfl, rfl, rfl⟩, ⟨rfl, rfl, rfl⟩, trivial⟩ (by kernel_rfl) (fun ext => ?_))
        refine TL.entryStore hF 3 (Value.int .i64) (i : Int) (comp (nd l i) s.W) rfl rfl rfl rfl hm109 hent109 (fun es15 hm15 => ?_)
        refine TL.finKN trivial ?_
        refine DH.done [(110, _), (109, _), (108, _), (107, _), (106, _), (105, _), (104, _), (103, _), (102, _), (101, _), (100, _), (99, _), (98, _), (97, _), (96, _)] [_, _] (by kernel_rfl) (by kernel_rfl) (by kernel_rfl) (by kernel_rfl) rfl rfl ?_
        refine TL.indexAddr hF rfl rfl ⟨_, rfl, rfl⟩ (by omega) (by omega) rfl ?_
        refine TL.storeI hF 5 rfl rfl rfl rfl (by simp [intC_len]; omega) ?_
        refine TL.nil ?_
        refine TQ.then_n ?_
        refine T.drawH 12 mixed ?_
        refine DH.read (i := 0) [(3, _, none)] rfl rfl rfl rfl ⟨⟨rfl, by kernel_rfl⟩, trivial⟩ (fun ext => TL.load hF rfl (by first | exact At.own' (i := 0) rfl rfl | exact At.own' (i := 1) rfl rfl | exact At.own' (i := 2) rfl rfl | exact At.own' (i := 3) rfl rfl | exact At.own' (i := 4) rfl rfl | exact At.own' (i := 5) rfl rfl | exact At.own' (i := 6) rfl rfl | exact At.own' (i := 7) rfl rfl | exact At.own' (i := 8) rfl rfl | exact At.own' (i := 9) rfl rfl | exact At.own' (i := 10) rfl rfl | exact At.own' (i := 11) rfl rfl | exact At.own' (i := 12) rfl rfl) rfl TL.fin) ?_
        refine DH.read (i := 1) [(3, _, none)] rfl rfl rfl rfl ⟨⟨rfl, by kernel_rfl⟩, trivial⟩ (fun ext => TL.load hF rfl (by first | exact At.own' (i := 0) rfl rfl | exact At.own' (i := 1) rfl rfl | exact At.own' (i := 2) rfl rfl | exact At.own' (i := 3) rfl rfl | exact At.own' (i := 4) rfl rfl | exact At.own' (i := 5) rfl rfl | exact At.own' (i := 6) rfl rfl | exact At.own' (i := 7) rfl rfl | exact At.own' (i := 8) rfl rfl | exact At.own' (i := 9) rfl rfl | exact At.own' (i := 10) rfl rfl | exact At.own' (i := 11) rfl rfl | exact At.own' (i := 12) rfl rfl) rfl TL.fin) ?_
        refine DH.pure (i := 2) [(113, _, some 1)] rfl rfl rfl rfl ⟨⟨rfl, rfl, rfl⟩, trivial⟩ (fun _ ext => TL.nilCheck hF rfl rfl TL.fin) ?_
        refine DH.pure (i := 3) [(114, _, some 2)] rfl rfl rfl rfl ⟨⟨rfl, rfl, rfl⟩, trivial⟩ (fun _ ext => TL.fieldAddr hF rfl rfl TL.fin) ?_
        refine DH.read (i := 4) [(115, _, some 3)] rfl rfl rfl rfl ⟨⟨rfl, rfl, rfl⟩, trivial⟩ (fun ext => TL.load hF rfl (by first | exact At.own' (i := 0) rfl rfl | exact At.own' (i := 1) rfl rfl | exact At.own' (i := 2) rfl rfl | exact At.own' (i := 3) rfl rfl | exact At.own' (i := 4) rfl rfl | exact At.own' (i := 5) rfl rfl | exact At.own' (i := 6) rfl rfl | exact At.own' (i := 7) rfl rfl | exact At.own' (i := 8) rfl rfl | exact At.own' (i := 9) rfl rfl | exact At.own' (i := 10) rfl rfl | exact At.own' (i := 11) rfl rfl | exact At.own' (i := 12) rfl rfl) rfl TL.fin) ?_
        refine DH.pure (i := 5) [(2, _, none)] rfl rfl rfl rfl ⟨⟨rfl, by kernel_rfl⟩, trivial⟩ (fun _ ext => TL.move hF rfl rfl TL.fin) ?_
        refine DH.pure (i := 6) [(1, _, none)] rfl rfl rfl rfl ⟨⟨rfl, by kernel_rfl⟩, trivial⟩ (fun _ ext => TL.move hF rfl rfl TL.fin) ?_
        refine DH.pure (i := 7) [(12, _, none)] rfl rfl rfl rfl ⟨⟨rfl, by kernel_rfl⟩, trivial⟩ (fun _ ext => TL.move hF rfl rfl TL.fin) ?_
        refine DH.pure (i := 8) [(13, _, none)] rfl rfl rfl rfl ⟨⟨rfl, by kernel_rfl⟩, trivial⟩ (fun _ ext => TL.move hF rfl rfl TL.fin) ?_
        refine DH.pure (i := 9) [(117, _, some 5), (118, _, some 6), (119, _, some 7), (120, _, some 8)] rfl rfl rfl rfl ⟨⟨rfl, rfl, rfl⟩, ⟨rfl, rfl, rfl⟩, ⟨rfl, rfl, rfl⟩, ⟨rfl, rfl, rfl⟩, trivial⟩ (fun _ ext => TL.build hF rfl (r := .agg #[.int .i64 (now : Int), .int .i64 (i : Int), .int .i64 (comp (nd l i) s.W), .bool true]) (fun w => by kernel_rfl) rfl TL.fin) ?_
        refine DH.k1 (by kernel_rfl) (by kernel_rfl) (by kernel_rfl) (by kernel_rfl) (HBK.mk (h := 10) [0, 1, 4] [(121, _, some 9)] rfl rfl rfl ⟨⟨rfl, rfl, rfl⟩, trivial⟩ (by kernel_rfl) (fun ext => ?_))
        refine TL.buildSlice hF rfl (cs := #[.int .i64 (now : Int), .int .i64 (i : Int), .int .i64 (comp (nd l i) s.W), .bool true]) (e := 53) (fun w => by kernel_rfl) rfl (fun b122 => ?_)
        refine TL.finK ⟨⟨_, rfl, _, _, [(3, _, none)], rfl, rfl, ⟨⟨rfl, by kernel_rfl⟩, trivial⟩, fun ext => TL.load hF rfl (by first | exact At.own' (i := 0) rfl rfl | exact At.own' (i := 1) rfl rfl | exact At.own' (i := 2) rfl rfl | exact At.own' (i := 3) rfl rfl | exact At.own' (i := 4) rfl rfl | exact At.own' (i := 5) rfl rfl | exact At.own' (i := 6) rfl rfl | exact At.own' (i := 7) rfl rfl | exact At.own' (i := 8) rfl rfl | exact At.own' (i := 9) rfl rfl | exact At.own' (i := 10) rfl rfl | exact At.own' (i := 11) rfl rfl | exact At.own' (i := 12) rfl rfl) rfl TL.fin⟩, ⟨_, rfl, _, _, [(3, _, none)], rfl, rfl, ⟨⟨rfl, by kernel_rfl⟩, trivial⟩, fun ext => TL.load hF rfl (by first | exact At.own' (i := 0) rfl rfl | exact At.own' (i := 1) rfl rfl | exact At.own' (i := 2) rfl rfl | exact At.own' (i := 3) rfl rfl | exact At.own' (i := 4) rfl rfl | exact At.own' (i := 5) rfl rfl | exact At.own' (i := 6) rfl rfl | exact At.own' (i := 7) rfl rfl | exact At.own' (i := 8) rfl rfl | exact At.own' (i := 9) rfl rfl | exact At.own' (i := 10) rfl rfl | exact At.own' (i := 11) rfl rfl | exact At.own' (i := 12) rfl rfl) rfl TL.fin⟩, ⟨_, rfl, _, _, [(115, _, some 3)], rfl, rfl, ⟨⟨rfl, rfl, rfl⟩, trivial⟩, fun ext => TL.load hF rfl (by first | exact At.own' (i := 0) rfl rfl | exact At.own' (i := 1) rfl rfl | exact At.own' (i := 2) rfl rfl | exact At.own' (i := 3) rfl rfl | exact At.own' (i := 4) rfl rfl | exact At.own' (i := 5) rfl rfl | exact At.own' (i := 6) rfl rfl | exact At.own' (i := 7) rfl rfl | exact At.own' (i := 8) rfl rfl | exact At.own' (i := 9) rfl rfl | exact At.own' (i := 10) rfl rfl | exact At.own' (i := 11) rfl rfl | exact At.own' (i := 12) rfl rfl) rfl TL.fin⟩, trivial⟩ ?_
        refine DH.k1 (by kernel_rfl) (by kernel_rfl) (by kernel_rfl) (by kernel_rfl) (HBK.mk (h := 11) [0] [(116, _, some 4), (122, _, some 10)] rfl rfl rfl ⟨⟨rfl, rfl, rfl⟩, ⟨rfl, rfl, rfl⟩, trivial⟩ (by kernel_rfl) (fun ext => ?_))
        refine TL.append hF 7 rfl rfl rfl hx.done (row_own (cs := [.int .i64 (now : Int), .int .i64 (i : Int), .int .i64 (comp (nd l i) s.W), .bool true]) (e := 53) (by simp)).src rfl rfl (by simp [Value.oneCell']) (by omega) (by omega) rfl (fun a' cap' seg' ho' => ?_)
        refine TL.finK ⟨⟨_, rfl, _, _, [(3, _, none)], rfl, rfl, ⟨⟨rfl, by kernel_rfl⟩, trivial⟩, fun ext => TL.load hF rfl (by first | exact At.own' (i := 0) rfl rfl | exact At.own' (i := 1) rfl rfl | exact At.own' (i := 2) rfl rfl | exact At.own' (i := 3) rfl rfl | exact At.own' (i := 4) rfl rfl | exact At.own' (i := 5) rfl rfl | exact At.own' (i := 6) rfl rfl | exact At.own' (i := 7) rfl rfl | exact At.own' (i := 8) rfl rfl | exact At.own' (i := 9) rfl rfl | exact At.own' (i := 10) rfl rfl | exact At.own' (i := 11) rfl rfl | exact At.own' (i := 12) rfl rfl) rfl TL.fin⟩, trivial⟩ ?_
        refine DH.done [(123, _), (122, _), (121, _), (120, _), (119, _), (118, _), (117, _), (116, _), (115, _), (114, _), (113, _), (112, _)] [_, _, _] (by kernel_rfl) (by kernel_rfl) (by kernel_rfl) (by kernel_rfl) rfl rfl ?_
        refine TL.nilCheck hF rfl rfl ?_
        refine TL.fieldAddr hF rfl rfl ?_
        refine TL.storeI hF 3 rfl rfl rfl rfl (by simp) ?_
        refine TL.nil ?_
        refine TQ.norm ?_
        refine TQ.pop ?_
        refine TQ.pop ?_
        refine TQ.pop ?_
        refine TQ.rets [] _ rfl rfl rfl ?_
        have hoth : otherS l s i = true := by unfold otherS; simp at g13_90; rw [decide_eq_true g13_90]; rfl
        have e1 : lookS l now s i = ⟨upd s.W i (comp (nd l i) s.W), upd s.O i now, upd s.L i now, s.used + 1⟩ := by unfold lookS; rw [if_pos hold, if_pos hoth]
        have e2 : doneS l now s i = [⟨now, i, comp (nd l i) s.W, true⟩] := by unfold doneS; rw [if_pos hold, hoth]
        rw [e1, e2]
        refine ⟨es15, clock109, a', cap', seg', ?_, ?_⟩
        · rw [List.length_append]
          exact congrArg (fun z : Seg => [(c.gb, Obj.cells (engV c l.length pl { x with es := es15, clock := clock109, da := a', dc := cap', dg := seg' } (ds.length + 1) (many + 1)) 88 (0, 0))] :: [(c.mb, Obj.map es15 clock109)] :: iseg c.lb l.length (upd s.L i now) :: z :: seg' :: η) (iseg_upd (b := c.ob) (n := l.length) (j := i) (f := s.O) (v := (now : Int)) (by simp))
        · rw [hput109] at hm15
          refine hx.put hw hm15 hcr (d := ⟨now, i, comp (nd l i) s.W, true⟩) ?_ _ _
          exact ho'
      · refine TL.on rfl rfl rfl g13_90 ?_
        refine TL.move hF rfl rfl ?_
        refine TL.on rfl rfl rfl g13_90 ?_
        refine TL.move hF rfl rfl ?_
        refine TL.on rfl rfl rfl g13_90 ?_
        refine TL.bin hF rfl rfl rfl rfl ?_
        refine TL.pickF hF rfl g13_90 rfl rfl ?_
        refine TL.assign hF rfl rfl ?_
        refine TL.nil ?_
        refine TQ.then_n ?_
        refine T.seq ?_
        refine T.seq ?_
        refine T.region ?_
        refine TL.move hF rfl rfl ?_
        refine TL.nil ?_
        refine TQ.then_n ?_
        first | refine T.cond_d rfl (fun ht95 => ?_) (fun ht95 => ?_) | refine T.cond _ rfl (fun ht95 => ?_) (fun ht95 => ?_)
        · refine T.drawH 16 mixed ?_
          refine DH.read (i := 0) [(3, _, none)] rfl rfl rfl rfl ⟨⟨rfl, by kernel_rfl⟩, trivial⟩ (fun ext => TL.load hF rfl (by first | exact At.own' (i := 0) rfl rfl | exact At.own' (i := 1) rfl rfl | exact At.own' (i := 2) rfl rfl | exact At.own' (i := 3) rfl rfl | exact At.own' (i := 4) rfl rfl | exact At.own' (i := 5) rfl rfl | exact At.own' (i := 6) rfl rfl | exact At.own' (i := 7) rfl rfl | exact At.own' (i := 8) rfl rfl | exact At.own' (i := 9) rfl rfl | exact At.own' (i := 10) rfl rfl | exact At.own' (i := 11) rfl rfl | exact At.own' (i := 12) rfl rfl) rfl TL.fin) ?_
          refine DH.pure (i := 1) [(96, _, some 0)] rfl rfl rfl rfl ⟨⟨rfl, rfl, rfl⟩, trivial⟩ (fun _ ext => TL.nilCheck hF rfl rfl TL.fin) ?_
          refine DH.pure (i := 2) [(97, _, some 1)] rfl rfl rfl rfl ⟨⟨rfl, rfl, rfl⟩, trivial⟩ (fun _ ext => TL.fieldAddr hF rfl rfl TL.fin) ?_
          refine DH.read (i := 3) [(98, _, some 2)] rfl rfl rfl rfl ⟨⟨rfl, rfl, rfl⟩, trivial⟩ (fun ext => TL.load hF rfl (by first | exact At.own' (i := 0) rfl rfl | exact At.own' (i := 1) rfl rfl | exact At.own' (i := 2) rfl rfl | exact At.own' (i := 3) rfl rfl | exact At.own' (i := 4) rfl rfl | exact At.own' (i := 5) rfl rfl | exact At.own' (i := 6) rfl rfl | exact At.own' (i := 7) rfl rfl | exact At.own' (i := 8) rfl rfl | exact At.own' (i := 9) rfl rfl | exact At.own' (i := 10) rfl rfl | exact At.own' (i := 11) rfl rfl | exact At.own' (i := 12) rfl rfl) rfl TL.fin) ?_
          refine DH.pure (i := 4) [(1, _, none)] rfl rfl rfl rfl ⟨⟨rfl, by kernel_rfl⟩, trivial⟩ (fun _ ext => TL.move hF rfl rfl TL.fin) ?_
          refine DH.pure (i := 5) [(100, _, some 4)] rfl rfl rfl rfl ⟨⟨rfl, rfl, rfl⟩, trivial⟩ (fun _ ext => TL.build hF rfl (r := KS i) (fun w => by kernel_rfl) rfl TL.fin) ?_
          refine DH.read (i := 6) [(3, _, none)] rfl rfl rfl rfl ⟨⟨rfl, by kernel_rfl⟩, trivial⟩ (fun ext => TL.load hF rfl (by first | exact At.own' (i := 0) rfl rfl | exact At.own' (i := 1) rfl rfl | exact At.own' (i := 2) rfl rfl | exact At.own' (i := 3) rfl rfl | exact At.own' (i := 4) rfl rfl | exact At.own' (i := 5) rfl rfl | exact At.own' (i := 6) rfl rfl | exact At.own' (i := 7) rfl rfl | exact At.own' (i := 8) rfl rfl | exact At.own' (i := 9) rfl rfl | exact At.own' (i := 10) rfl rfl | exact At.own' (i := 11) rfl rfl | exact At.own' (i := 12) rfl rfl) rfl TL.fin) ?_
          refine DH.pure (i := 7) [(102, _, some 6)] rfl rfl rfl rfl ⟨⟨rfl, rfl, rfl⟩, trivial⟩ (fun _ ext => TL.nilCheck hF rfl rfl TL.fin) ?_
          refine DH.pure (i := 8) [(103, _, some 7)] rfl rfl rfl rfl ⟨⟨rfl, rfl, rfl⟩, trivial⟩ (fun _ ext => TL.fieldAddr hF rfl rfl TL.fin) ?_
          refine DH.read (i := 9) [(104, _, some 8)] rfl rfl rfl rfl ⟨⟨rfl, rfl, rfl⟩, trivial⟩ (fun ext => TL.load hF rfl (by first | exact At.own' (i := 0) rfl rfl | exact At.own' (i := 1) rfl rfl | exact At.own' (i := 2) rfl rfl | exact At.own' (i := 3) rfl rfl | exact At.own' (i := 4) rfl rfl | exact At.own' (i := 5) rfl rfl | exact At.own' (i := 6) rfl rfl | exact At.own' (i := 7) rfl rfl | exact At.own' (i := 8) rfl rfl | exact At.own' (i := 9) rfl rfl | exact At.own' (i := 10) rfl rfl | exact At.own' (i := 11) rfl rfl | exact At.own' (i := 12) rfl rfl) rfl TL.fin) ?_
          refine DH.pure (i := 10) [(1, _, none)] rfl rfl rfl rfl ⟨⟨rfl, by kernel_rfl⟩, trivial⟩ (fun _ ext => TL.move hF rfl rfl TL.fin) ?_
          refine DH.pure (i := 11) [(12, _, none)] rfl rfl rfl rfl ⟨⟨rfl, by kernel_rfl⟩, trivial⟩ (fun _ ext => TL.move hF rfl rfl TL.fin) ?_
          refine DH.pure (i := 12) [(2, _, none)] rfl rfl rfl rfl ⟨⟨rfl, by kernel_rfl⟩, trivial⟩ (fun _ ext => TL.move hF rfl rfl TL.fin) ?_
          refine DH.heavy 13 [(99, _, some 3), (101, _, some 5)] (by kernel_rfl) (by kernel_rfl) (by kernel_rfl) (by kernel_rfl) rfl rfl rfl rfl ⟨⟨rfl, rfl, rfl⟩, ⟨rfl, rfl, rfl⟩, trivial⟩ (by kernel_rfl) (fun ext => ?_)
          refine TL.mapEntry hF 3 (Value.int .i64) 0 (i : Int) rfl rfl rfl rfl hm rfl (fun m109 es109 clock109 born109 u109 hor109 hput109 hm109 hent109 => ?_)
          refine TL.finD ?_
          refine DH.pure (i := 14) [(109, _, some 13)] rfl rfl rfl rfl ⟨⟨rfl, rfl, rfl⟩, trivial⟩ (fun _ ext => TL.extract hF rfl rfl rfl TL.fin) ?_
          refine DH.k1 (by kernel_rfl) (by kernel_rfl) (by kernel_rfl) (by kernel_rfl) (HBK.mk (h := 15) [] [(99, _, some 3), (110, _, some 14), (107, _, some 11)] rfl rfl rfl ⟨⟨rfl, rfl, rfl⟩, ⟨rfl, rfl, rfl⟩, ⟨rfl, rfl, rfl⟩, trivial⟩ (by kernel_rfl) (fun ext => ?_))
          refine TL.entryStore hF 3 (Value.int .i64) (i : Int) (comp (nd l i) s.W) rfl rfl rfl rfl hm109 hent109 (fun es15 hm15 => ?_)
          refine TL.finKN trivial ?_
          refine DH.done [(110, _), (109, _), (108, _), (107, _), (106, _), (105, _), (104, _), (103, _), (102, _), (101, _), (100, _), (99, _), (98, _), (97, _), (96, _)] [_, _] (by kernel_rfl) (by kernel_rfl) (by kernel_rfl) (by kernel_rfl) rfl rfl ?_
          refine TL.indexAddr hF rfl rfl ⟨_, rfl, rfl⟩ (by omega) (by omega) rfl ?_
          refine TL.storeI hF 5 rfl rfl rfl rfl (by simp [intC_len]; omega) ?_
          refine TL.nil ?_
          refine TQ.then_n ?_
          refine T.drawH 12 mixed ?_
          refine DH.read (i := 0) [(3, _, none)] rfl rfl rfl rfl ⟨⟨rfl, by kernel_rfl⟩, trivial⟩ (fun ext => TL.load hF rfl (by first | exact At.own' (i := 0) rfl rfl | exact At.own' (i := 1) rfl rfl | exact At.own' (i := 2) rfl rfl | exact At.own' (i := 3) rfl rfl | exact At.own' (i := 4) rfl rfl | exact At.own' (i := 5) rfl rfl | exact At.own' (i := 6) rfl rfl | exact At.own' (i := 7) rfl rfl | exact At.own' (i := 8) rfl rfl | exact At.own' (i := 9) rfl rfl | exact At.own' (i := 10) rfl rfl | exact At.own' (i := 11) rfl rfl | exact At.own' (i := 12) rfl rfl) rfl TL.fin) ?_
          refine DH.read (i := 1) [(3, _, none)] rfl rfl rfl rfl ⟨⟨rfl, by kernel_rfl⟩, trivial⟩ (fun ext => TL.load hF rfl (by first | exact At.own' (i := 0) rfl rfl | exact At.own' (i := 1) rfl rfl | exact At.own' (i := 2) rfl rfl | exact At.own' (i := 3) rfl rfl | exact At.own' (i := 4) rfl rfl | exact At.own' (i := 5) rfl rfl | exact At.own' (i := 6) rfl rfl | exact At.own' (i := 7) rfl rfl | exact At.own' (i := 8) rfl rfl | exact At.own' (i := 9) rfl rfl | exact At.own' (i := 10) rfl rfl | exact At.own' (i := 11) rfl rfl | exact At.own' (i := 12) rfl rfl) rfl TL.fin) ?_
          refine DH.pure (i := 2) [(113, _, some 1)] rfl rfl rfl rfl ⟨⟨rfl, rfl, rfl⟩, trivial⟩ (fun _ ext => TL.nilCheck hF rfl rfl TL.fin) ?_
          refine DH.pure (i := 3) [(114, _, some 2)] rfl rfl rfl rfl ⟨⟨rfl, rfl, rfl⟩, trivial⟩ (fun _ ext => TL.fieldAddr hF rfl rfl TL.fin) ?_
          refine DH.read (i := 4) [(115, _, some 3)] rfl rfl rfl rfl ⟨⟨rfl, rfl, rfl⟩, trivial⟩ (fun ext => TL.load hF rfl (by first | exact At.own' (i := 0) rfl rfl | exact At.own' (i := 1) rfl rfl | exact At.own' (i := 2) rfl rfl | exact At.own' (i := 3) rfl rfl | exact At.own' (i := 4) rfl rfl | exact At.own' (i := 5) rfl rfl | exact At.own' (i := 6) rfl rfl | exact At.own' (i := 7) rfl rfl | exact At.own' (i := 8) rfl rfl | exact At.own' (i := 9) rfl rfl | exact At.own' (i := 10) rfl rfl | exact At.own' (i := 11) rfl rfl | exact At.own' (i := 12) rfl rfl) rfl TL.fin) ?_
          refine DH.pure (i := 5) [(2, _, none)] rfl rfl rfl rfl ⟨⟨rfl, by kernel_rfl⟩, trivial⟩ (fun _ ext => TL.move hF rfl rfl TL.fin) ?_
          refine DH.pure (i := 6) [(1, _, none)] rfl rfl rfl rfl ⟨⟨rfl, by kernel_rfl⟩, trivial⟩ (fun _ ext => TL.move hF rfl rfl TL.fin) ?_
          refine DH.pure (i := 7) [(12, _, none)] rfl rfl rfl rfl ⟨⟨rfl, by kernel_rfl⟩, trivial⟩ (fun _ ext => TL.move hF rfl rfl TL.fin) ?_
          refine DH.pure (i := 8) [(13, _, none)] rfl rfl rfl rfl ⟨⟨rfl, by kernel_rfl⟩, trivial⟩ (fun _ ext => TL.move hF rfl rfl TL.fin) ?_
          refine DH.pure (i := 9) [(117, _, some 5), (118, _, some 6), (119, _, some 7), (120, _, some 8)] rfl rfl rfl rfl ⟨⟨rfl, rfl, rfl⟩, ⟨rfl, rfl, rfl⟩, ⟨rfl, rfl, rfl⟩, ⟨rfl, rfl, rfl⟩, trivial⟩ (fun _ ext => TL.build hF rfl (r := .agg #[.int .i64 (now : Int), .int .i64 (i : Int), .int .i64 (comp (nd l i) s.W), .bool (decide (comp (nd l i) s.W ≠ s.W i))]) (fun w => by kernel_rfl) rfl TL.fin) ?_
          refine DH.k1 (by kernel_rfl) (by kernel_rfl) (by kernel_rfl) (by kernel_rfl) (HBK.mk (h := 10) [0, 1, 4] [(121, _, some 9)] rfl rfl rfl ⟨⟨rfl, rfl, rfl⟩, trivial⟩ (by kernel_rfl) (fun ext => ?_))
          refine TL.buildSlice hF rfl (cs := #[.int .i64 (now : Int), .int .i64 (i : Int), .int .i64 (comp (nd l i) s.W), .bool (decide (comp (nd l i) s.W ≠ s.W i))]) (e := 53) (fun w => by kernel_rfl) rfl (fun b122 => ?_)
          refine TL.finK ⟨⟨_, rfl, _, _, [(3, _, none)], rfl, rfl, ⟨⟨rfl, by kernel_rfl⟩, trivial⟩, fun ext => TL.load hF rfl (by first | exact At.own' (i := 0) rfl rfl | exact At.own' (i := 1) rfl rfl | exact At.own' (i := 2) rfl rfl | exact At.own' (i := 3) rfl rfl | exact At.own' (i := 4) rfl rfl | exact At.own' (i := 5) rfl rfl | exact At.own' (i := 6) rfl rfl | exact At.own' (i := 7) rfl rfl | exact At.own' (i := 8) rfl rfl | exact At.own' (i := 9) rfl rfl | exact At.own' (i := 10) rfl rfl | exact At.own' (i := 11) rfl rfl | exact At.own' (i := 12) rfl rfl) rfl TL.fin⟩, ⟨_, rfl, _, _, [(3, _, none)], rfl, rfl, ⟨⟨rfl, by kernel_rfl⟩, trivial⟩, fun ext => TL.load hF rfl (by first | exact At.own' (i := 0) rfl rfl | exact At.own' (i := 1) rfl rfl | exact At.own' (i := 2) rfl rfl | exact At.own' (i := 3) rfl rfl | exact At.own' (i := 4) rfl rfl | exact At.own' (i := 5) rfl rfl | exact At.own' (i := 6) rfl rfl | exact At.own' (i := 7) rfl rfl | exact At.own' (i := 8) rfl rfl | exact At.own' (i := 9) rfl rfl | exact At.own' (i := 10) rfl rfl | exact At.own' (i := 11) rfl rfl | exact At.own' (i := 12) rfl rfl) rfl TL.fin⟩, ⟨_, rfl, _, _, [(115, _, some 3)], rfl, rfl, ⟨⟨rfl, rfl, rfl⟩, trivial⟩, fun ext => TL.load hF rfl (by first | exact At.own' (i := 0) rfl rfl | exact At.own' (i := 1) rfl rfl | exact At.own' (i := 2) rfl rfl | exact At.own' (i := 3) rfl rfl | exact At.own' (i := 4) rfl rfl | exact At.own' (i := 5) rfl rfl | exact At.own' (i := 6) rfl rfl | exact At.own' (i := 7) rfl rfl | exact At.own' (i := 8) rfl rfl | exact At.own' (i := 9) rfl rfl | exact At.own' (i := 10) rfl rfl | exact At.own' (i := 11) rfl rfl | exact At.own' (i := 12) rfl rfl) rfl TL.fin⟩, trivial⟩ ?_
          refine DH.k1 (by kernel_rfl) (by kernel_rfl) (by kernel_rfl) (by kernel_rfl) (HBK.mk (h := 11) [0] [(116, _, some 4), (122, _, some 10)] rfl rfl rfl ⟨⟨rfl, rfl, rfl⟩, ⟨rfl, rfl, rfl⟩, trivial⟩ (by kernel_rfl) (fun ext => ?_))
          refine TL.append hF 7 rfl rfl rfl hx.done (row_own (cs := [.int .i64 (now : Int), .int .i64 (i : Int), .int .i64 (comp (nd l i) s.W), .bool (decide (comp (nd l i) s.W ≠ s.W i))]) (e := 53) (by simp)).src rfl rfl (by simp [Value.oneCell']) (by omega) (by omega) rfl (fun a' cap' seg' ho' => ?_)
          refine TL.finK ⟨⟨_, rfl, _, _, [(3, _, none)], rfl, rfl, ⟨⟨rfl, by kernel_rfl⟩, trivial⟩, fun ext => TL.load hF rfl (by first | exact At.own' (i := 0) rfl rfl | exact At.own' (i := 1) rfl rfl | exact At.own' (i := 2) rfl rfl | exact At.own' (i := 3) rfl rfl | exact At.own' (i := 4) rfl rfl | exact At.own' (i := 5) rfl rfl | exact At.own' (i := 6) rfl rfl | exact At.own' (i := 7) rfl rfl | exact At.own' (i := 8) rfl rfl | exact At.own' (i := 9) rfl rfl | exact At.own' (i := 10) rfl rfl | exact At.own' (i := 11) rfl rfl | exact At.own' (i := 12) rfl rfl) rfl TL.fin⟩, trivial⟩ ?_
          refine DH.done [(123, _), (122, _), (121, _), (120, _), (119, _), (118, _), (117, _), (116, _), (115, _), (114, _), (113, _), (112, _)] [_, _, _] (by kernel_rfl) (by kernel_rfl) (by kernel_rfl) (by kernel_rfl) rfl rfl ?_
          refine TL.nilCheck hF rfl rfl ?_
          refine TL.fieldAddr hF rfl rfl ?_
          refine TL.storeI hF 3 rfl rfl rfl rfl (by simp) ?_
          refine TL.nil ?_
          refine TQ.norm ?_
          refine TQ.pop ?_
          refine TQ.pop ?_
          refine TQ.pop ?_
          refine TQ.rets [] _ rfl rfl rfl ?_
          have hoth : otherS l s i = true := by unfold otherS; rw [decide_eq_true ht95, Bool.or_true]
          have e1 : lookS l now s i = ⟨upd s.W i (comp (nd l i) s.W), upd s.O i now, upd s.L i now, s.used + 1⟩ := by unfold lookS; rw [if_pos hold, if_pos hoth]
          have e2 : doneS l now s i = [⟨now, i, comp (nd l i) s.W, true⟩] := by unfold doneS; rw [if_pos hold, hoth]
          rw [e1, e2]
          refine ⟨es15, clock109, a', cap', seg', ?_, ?_⟩
          · rw [List.length_append]
            exact congrArg (fun z : Seg => [(c.gb, Obj.cells (engV c l.length pl { x with es := es15, clock := clock109, da := a', dc := cap', dg := seg' } (ds.length + 1) (many + 1)) 88 (0, 0))] :: [(c.mb, Obj.map es15 clock109)] :: iseg c.lb l.length (upd s.L i now) :: z :: seg' :: η) (iseg_upd (b := c.ob) (n := l.length) (j := i) (f := s.O) (v := (now : Int)) (by simp))
          · rw [hput109] at hm15
            refine hx.put hw hm15 hcr (d := ⟨now, i, comp (nd l i) s.W, true⟩) ?_ _ _
            rw [decide_eq_true ht95] at ho'; exact ho'
        · refine T.skip ?_
          refine TQ.then_n ?_
          refine T.drawH 12 mixed ?_
          refine DH.read (i := 0) [(3, _, none)] rfl rfl rfl rfl ⟨⟨rfl, by kernel_rfl⟩, trivial⟩ (fun ext => TL.load hF rfl (by first | exact At.own' (i := 0) rfl rfl | exact At.own' (i := 1) rfl rfl | exact At.own' (i := 2) rfl rfl | exact At.own' (i := 3) rfl rfl | exact At.own' (i := 4) rfl rfl | exact At.own' (i := 5) rfl rfl | exact At.own' (i := 6) rfl rfl | exact At.own' (i := 7) rfl rfl | exact At.own' (i := 8) rfl rfl | exact At.own' (i := 9) rfl rfl | exact At.own' (i := 10) rfl rfl | exact At.own' (i := 11) rfl rfl | exact At.own' (i := 12) rfl rfl) rfl TL.fin) ?_
          refine DH.read (i := 1) [(3, _, none)] rfl rfl rfl rfl ⟨⟨rfl, by kernel_rfl⟩, trivial⟩ (fun ext => TL.load hF rfl (by first | exact At.own' (i := 0) rfl rfl | exact At.own' (i := 1) rfl rfl | exact At.own' (i := 2) rfl rfl | exact At.own' (i := 3) rfl rfl | exact At.own' (i := 4) rfl rfl | exact At.own' (i := 5) rfl rfl | exact At.own' (i := 6) rfl rfl | exact At.own' (i := 7) rfl rfl | exact At.own' (i := 8) rfl rfl | exact At.own' (i := 9) rfl rfl | exact At.own' (i := 10) rfl rfl | exact At.own' (i := 11) rfl rfl | exact At.own' (i := 12) rfl rfl) rfl TL.fin) ?_
          refine DH.pure (i := 2) [(113, _, some 1)] rfl rfl rfl rfl ⟨⟨rfl, rfl, rfl⟩, trivial⟩ (fun _ ext => TL.nilCheck hF rfl rfl TL.fin) ?_
          refine DH.pure (i := 3) [(114, _, some 2)] rfl rfl rfl rfl ⟨⟨rfl, rfl, rfl⟩, trivial⟩ (fun _ ext => TL.fieldAddr hF rfl rfl TL.fin) ?_
          refine DH.read (i := 4) [(115, _, some 3)] rfl rfl rfl rfl ⟨⟨rfl, rfl, rfl⟩, trivial⟩ (fun ext => TL.load hF rfl (by first | exact At.own' (i := 0) rfl rfl | exact At.own' (i := 1) rfl rfl | exact At.own' (i := 2) rfl rfl | exact At.own' (i := 3) rfl rfl | exact At.own' (i := 4) rfl rfl | exact At.own' (i := 5) rfl rfl | exact At.own' (i := 6) rfl rfl | exact At.own' (i := 7) rfl rfl | exact At.own' (i := 8) rfl rfl | exact At.own' (i := 9) rfl rfl | exact At.own' (i := 10) rfl rfl | exact At.own' (i := 11) rfl rfl | exact At.own' (i := 12) rfl rfl) rfl TL.fin) ?_
          refine DH.pure (i := 5) [(2, _, none)] rfl rfl rfl rfl ⟨⟨rfl, by kernel_rfl⟩, trivial⟩ (fun _ ext => TL.move hF rfl rfl TL.fin) ?_
          refine DH.pure (i := 6) [(1, _, none)] rfl rfl rfl rfl ⟨⟨rfl, by kernel_rfl⟩, trivial⟩ (fun _ ext => TL.move hF rfl rfl TL.fin) ?_
          refine DH.pure (i := 7) [(12, _, none)] rfl rfl rfl rfl ⟨⟨rfl, by kernel_rfl⟩, trivial⟩ (fun _ ext => TL.move hF rfl rfl TL.fin) ?_
          refine DH.pure (i := 8) [(13, _, none)] rfl rfl rfl rfl ⟨⟨rfl, by kernel_rfl⟩, trivial⟩ (fun _ ext => TL.move hF rfl rfl TL.fin) ?_
          refine DH.pure (i := 9) [(117, _, some 5), (118, _, some 6), (119, _, some 7), (120, _, some 8)] rfl rfl rfl rfl ⟨⟨rfl, rfl, rfl⟩, ⟨rfl, rfl, rfl⟩, ⟨rfl, rfl, rfl⟩, ⟨rfl, rfl, rfl⟩, trivial⟩ (fun _ ext => TL.build hF rfl (r := .agg #[.int .i64 (now : Int), .int .i64 (i : Int), .int .i64 (comp (nd l i) s.W), .bool (decide (comp (nd l i) s.W ≠ s.W i))]) (fun w => by kernel_rfl) rfl TL.fin) ?_
          refine DH.k1 (by kernel_rfl) (by kernel_rfl) (by kernel_rfl) (by kernel_rfl) (HBK.mk (h := 10) [0, 1, 4] [(121, _, some 9)] rfl rfl rfl ⟨⟨rfl, rfl, rfl⟩, trivial⟩ (by kernel_rfl) (fun ext => ?_))
          refine TL.buildSlice hF rfl (cs := #[.int .i64 (now : Int), .int .i64 (i : Int), .int .i64 (comp (nd l i) s.W), .bool (decide (comp (nd l i) s.W ≠ s.W i))]) (e := 53) (fun w => by kernel_rfl) rfl (fun b122 => ?_)
          refine TL.finK ⟨⟨_, rfl, _, _, [(3, _, none)], rfl, rfl, ⟨⟨rfl, by kernel_rfl⟩, trivial⟩, fun ext => TL.load hF rfl (by first | exact At.own' (i := 0) rfl rfl | exact At.own' (i := 1) rfl rfl | exact At.own' (i := 2) rfl rfl | exact At.own' (i := 3) rfl rfl | exact At.own' (i := 4) rfl rfl | exact At.own' (i := 5) rfl rfl | exact At.own' (i := 6) rfl rfl | exact At.own' (i := 7) rfl rfl | exact At.own' (i := 8) rfl rfl | exact At.own' (i := 9) rfl rfl | exact At.own' (i := 10) rfl rfl | exact At.own' (i := 11) rfl rfl | exact At.own' (i := 12) rfl rfl) rfl TL.fin⟩, ⟨_, rfl, _, _, [(3, _, none)], rfl, rfl, ⟨⟨rfl, by kernel_rfl⟩, trivial⟩, fun ext => TL.load hF rfl (by first | exact At.own' (i := 0) rfl rfl | exact At.own' (i := 1) rfl rfl | exact At.own' (i := 2) rfl rfl | exact At.own' (i := 3) rfl rfl | exact At.own' (i := 4) rfl rfl | exact At.own' (i := 5) rfl rfl | exact At.own' (i := 6) rfl rfl | exact At.own' (i := 7) rfl rfl | exact At.own' (i := 8) rfl rfl | exact At.own' (i := 9) rfl rfl | exact At.own' (i := 10) rfl rfl | exact At.own' (i := 11) rfl rfl | exact At.own' (i := 12) rfl rfl) rfl TL.fin⟩, ⟨_, rfl, _, _, [(115, _, some 3)], rfl, rfl, ⟨⟨rfl, rfl, rfl⟩, trivial⟩, fun ext => TL.load hF rfl (by first | exact At.own' (i := 0) rfl rfl | exact At.own' (i := 1) rfl rfl | exact At.own' (i := 2) rfl rfl | exact At.own' (i := 3) rfl rfl | exact At.own' (i := 4) rfl rfl | exact At.own' (i := 5) rfl rfl | exact At.own' (i := 6) rfl rfl | exact At.own' (i := 7) rfl rfl | exact At.own' (i := 8) rfl rfl | exact At.own' (i := 9) rfl rfl | exact At.own' (i := 10) rfl rfl | exact At.own' (i := 11) rfl rfl | exact At.own' (i := 12) rfl rfl) rfl TL.fin⟩, trivial⟩ ?_
          refine DH.k1 (by kernel_rfl) (by kernel_rfl) (by kernel_rfl) (by kernel_rfl) (HBK.mk (h := 11) [0] [(116, _, some 4), (122, _, some 10)] rfl rfl rfl ⟨⟨rfl, rfl, rfl⟩, ⟨rfl, rfl, rfl⟩, trivial⟩ (by kernel_rfl) (fun ext => ?_))
          refine TL.append hF 7 rfl rfl rfl hx.done (row_own (cs := [.int .i64 (now : Int), .int .i64 (i : Int), .int .i64 (comp (nd l i) s.W), .bool (decide (comp (nd l i) s.W ≠ s.W i))]) (e := 53) (by simp)).src rfl rfl (by simp [Value.oneCell']) (by omega) (by omega) rfl (fun a' cap' seg' ho' => ?_)
          refine TL.finK ⟨⟨_, rfl, _, _, [(3, _, none)], rfl, rfl, ⟨⟨rfl, by kernel_rfl⟩, trivial⟩, fun ext => TL.load hF rfl (by first | exact At.own' (i := 0) rfl rfl | exact At.own' (i := 1) rfl rfl | exact At.own' (i := 2) rfl rfl | exact At.own' (i := 3) rfl rfl | exact At.own' (i := 4) rfl rfl | exact At.own' (i := 5) rfl rfl | exact At.own' (i := 6) rfl rfl | exact At.own' (i := 7) rfl rfl | exact At.own' (i := 8) rfl rfl | exact At.own' (i := 9) rfl rfl | exact At.own' (i := 10) rfl rfl | exact At.own' (i := 11) rfl rfl | exact At.own' (i := 12) rfl rfl) rfl TL.fin⟩, trivial⟩ ?_
          refine DH.done [(123, _), (122, _), (121, _), (120, _), (119, _), (118, _), (117, _), (116, _), (115, _), (114, _), (113, _), (112, _)] [_, _, _] (by kernel_rfl) (by kernel_rfl) (by kernel_rfl) (by kernel_rfl) rfl rfl ?_
          refine TL.nilCheck hF rfl rfl ?_
          refine TL.fieldAddr hF rfl rfl ?_
          refine TL.storeI hF 3 rfl rfl rfl rfl (by simp) ?_
          refine TL.nil ?_
          refine TQ.norm ?_
          refine TQ.pop ?_
          refine TQ.pop ?_
          refine TQ.pop ?_
          refine TQ.rets [] _ rfl rfl rfl ?_
          have hL : 0 ≤ s.L i := by simpa using g13_90
          have heq : comp (nd l i) s.W = s.W i := Classical.not_not.1 ht95
          have hoth : otherS l s i = false := by unfold otherS; rw [decide_eq_false (by omega), decide_eq_false ht95]; rfl
          have e1 : lookS l now s i = ⟨upd s.W i (comp (nd l i) s.W), s.O, upd s.L i now, s.used + 1⟩ := by unfold lookS; rw [if_pos hold, if_neg (by simp [hoth])]
          have e2 : doneS l now s i = [⟨now, i, comp (nd l i) s.W, false⟩] := by unfold doneS; rw [if_pos hold, hoth]
          rw [decide_eq_false ht95] at ho'
          rw [e1, e2]
          refine ⟨x.es, x.clock, a', cap', seg', ?_, hx.keep hL ?_ (upd s.W i (comp (nd l i) s.W)) s.O (fun j => ?_) _⟩
          · rw [List.length_append]; rfl
          · have e3 : (ds ++ [(⟨now, i, comp (nd l i) s.W, false⟩ : DoneD)]).length = ds.length + 1 := by simp
            have e4 : (ds ++ [(⟨now, i, comp (nd l i) s.W, false⟩ : DoneD)]).flatMap DoneD.cells = ds.flatMap DoneD.cells ++ DoneD.cells ⟨now, i, comp (nd l i) s.W, false⟩ := by simp
            rw [e3, e4]; exact ho'
          · unfold upd; split
            · rename_i h; rw [h]; exact heq
            · rfl
end Go.Proofs.YtefkmiomldhmjaaDoor
/- Which nodes are wanted, by the program. -/
namespace Go.Proofs.YtefkmiomldhmjaaDoor
open Go.Sl
variable {S : Nat → Prop} {w0 : World} {η : Heap}
theorem Reach.trans {l : List NodeD} {a b c : Nat} (h : Reach l a b) (h2 : Reach l b c) : Reach l a c := by
  induction h with
  | refl => exact h2
  | step f hf _ ih => exact .step f hf (ih h2)
theorem Reach.input {l : List NodeD} (hok : Ok l) {a b : Nat} (ha : a < l.length) (h0 : (nd l a).op = 0) (h : Reach l a b) : b = a := by
  cases h with
  | refl => rfl
  | step f hf _ =>
    rw [nd_eq ha] at h0 hf
    rw [(hok.inp a ha).1 h0] at hf; simp at hf
theorem Reach.le {l : List NodeD} (hok : Ok l) {a b : Nat} (h : Reach l a b) : a < l.length → b ≤ a := by
  induction h with
  | refl => intro _; exact Nat.le_refl _
  | step f hf _ ih =>
    intro ha
    rw [nd_eq ha] at hf
    have := hok.fr _ ha f hf
    have := ih (by omega); omega
/-- What is marked up to a node leads to what is marked. -/
def Shut (l : List NodeD) (is : Nat → Bool) (n : Nat) : Prop := ∀ m, m ≤ n → is m = true → ∀ i, Reach l m i → (nd l i).op ≠ 0 → is i = true
def NowIs (l : List NodeD) (is is' : Nat → Bool) (n : Nat) : Prop := ∀ i, is' i = true ↔ is i = true ∨ (Reach l n i ∧ (nd l i).op ≠ 0)
def MidIs (l : List NodeD) (is is' : Nat → Bool) (n j : Nat) : Prop := ∀ i, is' i = true ↔ is i = true ∨ i = n ∨ ∃ f ∈ (nd l n).fr.take j, Reach l f.toNat i ∧ (nd l i).op ≠ 0
theorem MidIs.shut {l : List NodeD} {is is' : Nat → Bool} {n j : Nat} (h : MidIs l is is' n j) (hs : Shut l is n) {f : Nat} (hf : f < n) : Shut l is' f := by
  intro m hm h1 i hr h0
  rcases (h m).1 h1 with h2 | h2 | ⟨g, hg, h2, _⟩
  · exact (h i).2 (.inl (hs m (by omega) h2 i hr h0))
  · omega
  · exact (h i).2 (.inr (.inr ⟨g, hg, h2.trans hr, h0⟩))
theorem MidIs.succ {l : List NodeD} {is is' is2 : Nat → Bool} {n j : Nat} (h : MidIs l is is' n j) (hj : j < (nd l n).fr.length) (h2 : NowIs l is' is2 ((nd l n).fr[j]).toNat) : MidIs l is is2 n (j + 1) := by
  intro i
  rw [h2 i, h i, List.take_succ_eq_append_getElem hj]
  constructor
  · rintro ((h | h | ⟨f, hf, h⟩) | h)
    · exact .inl h
    · exact .inr (.inl h)
    · exact .inr (.inr ⟨f, List.mem_append_left _ hf, h⟩)
    · exact .inr (.inr ⟨_, List.mem_append_right _ (List.mem_singleton.2 rfl), h⟩)
  · rintro (h | h | ⟨f, hf, h⟩)
    · exact .inl (.inl h)
    · exact .inl (.inr (.inl h))
    · rcases List.mem_append.1 hf with hf | hf
      · exact .inl (.inr (.inr ⟨f, hf, h⟩))
      · rw [List.mem_singleton.1 hf] at h; exact .inr h
theorem MidIs.last {l : List NodeD} {is is' : Nat → Bool} {n j : Nat} (h : MidIs l is is' n j) (hj : (nd l n).fr.length ≤ j) (h0 : (nd l n).op ≠ 0) : NowIs l is is' n := by
  intro i
  rw [h i, List.take_of_length_le hj]
  constructor
  · rintro (h | h | ⟨f, hf, h, h1⟩)
    · exact .inl h
    · subst h; exact .inr ⟨.refl _, h0⟩
    · exact .inr ⟨.step f hf h, h1⟩
  · rintro (h | ⟨h, h1⟩)
    · exact .inl h
    · cases h with
      | refl => exact .inr (.inl rfl)
      | step f hf h => exact .inr (.inr ⟨f, hf, h, h1⟩)

set_option maxHeartbeats 2000000 in
theorem want_step {gb hb bb wb bi : Nat} {E : Array Value} {na : Option Addr} {l : List NodeD} {nc : Nat} {sa : Option Addr} {pick : List Int} {sc : Nat} (hE : Eng η gb E na l nc sa pick sc) (hn : Nodes S w0 [] na l) (hok : Ok l) {n : Nat} (hi : n < l.length) {is : Nat → Bool} (hs : Shut l is n) (IH : ∀ f, f < n → ∀ is, Shut l is f → Rt Tryd.prog 68 [.int .i64 ((f : Nat) : Int), ptr hb, ptr bb, ptr wb].toArray S w0 ([(wb, Obj.cells #[.func (.func 68) #[] #[ptr hb, ptr bb, ptr wb]] 120 (0, 0))] :: [(hb, Obj.cells #[.slice (some ⟨bi, 0, none⟩) l.length l.length] 62 (0, 0))] :: bseg bi l.length is :: [(bb, Obj.cells #[ptr gb] 89 (0, 0))] :: η) (fun _ η' => ∃ is', η' = [(wb, Obj.cells #[.func (.func 68) #[] #[ptr hb, ptr bb, ptr wb]] 120 (0, 0))] :: [(hb, Obj.cells #[.slice (some ⟨bi, 0, none⟩) l.length l.length] 62 (0, 0))] :: bseg bi l.length is' :: [(bb, Obj.cells #[ptr gb] 89 (0, 0))] :: η ∧ NowIs l is is' f)) :
    Rt Tryd.prog 68 [.int .i64 ((n : Nat) : Int), ptr hb, ptr bb, ptr wb].toArray S w0 ([(wb, Obj.cells #[.func (.func 68) #[] #[ptr hb, ptr bb, ptr wb]] 120 (0, 0))] :: [(hb, Obj.cells #[.slice (some ⟨bi, 0, none⟩) l.length l.length] 62 (0, 0))] :: bseg bi l.length is :: [(bb, Obj.cells #[ptr gb] 89 (0, 0))] :: η) (fun _ η' => ∃ is', η' = [(wb, Obj.cells #[.func (.func 68) #[] #[ptr hb, ptr bb, ptr wb]] 120 (0, 0))] :: [(hb, Obj.cells #[.slice (some ⟨bi, 0, none⟩) l.length l.length] 62 (0, 0))] :: bseg bi l.length is' :: [(bb, Obj.cells #[ptr gb] 89 (0, 0))] :: η ∧ NowIs l is is' n) := by
  have hF := open_wide
  refine Rt.of (fn := Tryd.f68) Tryd.func68 rfl rfl ?_
  refine T.seq ?_
  refine T.seq ?_
  refine T.region ?_
  refine TL.load hF rfl (own_mem (upc _ List.mem_cons_self) rfl) rfl ?_
  refine TL.move hF rfl rfl ?_
  refine TL.indexAddr hF rfl rfl ⟨_, rfl, rfl⟩ (by omega) (by omega) rfl ?_
  refine TL.load hF rfl (bseg_at (f := is) (n := l.length) (b := bi) (j := n) (upc _ (upc _ List.mem_cons_self)) hi) rfl ?_
  refine TL.move hF rfl rfl ?_
  refine TL.gb (t := 11) rfl (fun g0_11 => ?_) (fun g0_11 => ?_)
  · refine TL.off hF rfl rfl rfl g0_11 rfl ?_
    refine TL.off hF rfl rfl rfl g0_11 rfl ?_
    refine TL.off hF rfl rfl rfl g0_11 rfl ?_
    refine TL.pickT hF rfl g0_11 rfl rfl ?_
    refine TL.nil ?_
    refine TQ.then_n ?_
    refine T.cond_t rfl rfl ?_
    refine T.ret ?_
    refine TQ.then_r ?_
    refine TQ.rets [] _ rfl rfl rfl ?_
    refine ⟨is, rfl, fun i => ⟨.inl, ?_⟩⟩
    rintro (h | ⟨h, h0⟩)
    · exact h
    · exact hs n (Nat.le_refl _) g0_11 i h h0
  · refine TL.on rfl rfl rfl g0_11 ?_
    refine TL.load hF rfl (own_mem (upc _ (upc _ (upc _ List.mem_cons_self))) rfl) rfl ?_
    refine TL.on rfl rfl rfl g0_11 ?_
    refine TL.move hF rfl rfl ?_
    refine TL.on rfl rfl rfl g0_11 ?_
    refine TL.callV hF (input_fn (hE.up (fun _ h => upc _ (upc _ (upc _ (upc _ h))))) hn (n := (n : Int)) (by omega)) rfl rfl ?_
    refine TL.pickF hF rfl g0_11 rfl rfl ?_
    refine TL.nil ?_
    refine TQ.then_n ?_
    first | refine T.cond_d rfl (fun ht15 => ?_) (fun ht15 => ?_) | refine T.cond _ rfl (fun ht15 => ?_) (fun ht15 => ?_)
    · refine T.ret ?_
      refine TQ.then_r ?_
      refine TQ.rets [] _ rfl rfl rfl ?_
      refine ⟨is, rfl, fun i => ⟨.inl, ?_⟩⟩
      rintro (h | ⟨h, h0⟩)
      · exact h
      · have := h.input hok hi ht15
        subst this; exact absurd ht15 h0
    · refine T.skip ?_
      refine TQ.then_n ?_
      refine T.seq ?_
      refine T.region ?_
      refine TL.load hF rfl (own_mem (upc _ List.mem_cons_self) rfl) rfl ?_
      refine TL.move hF rfl rfl ?_
      refine TL.indexAddr hF rfl rfl ⟨_, rfl, rfl⟩ (by omega) (by omega) rfl ?_
      refine TL.storeI hF 2 rfl rfl rfl rfl (by simp [rowC_len]; omega) ?_
      refine TL.nil ?_
      refine TQ.then_n ?_
      refine T.seq ?_
      refine T.region ?_
      refine TL.load hF rfl (own_mem (upc _ (upc _ (upc _ List.mem_cons_self))) rfl) rfl ?_
      refine TL.nilCheck hF rfl rfl ?_
      refine TL.fieldAddr hF rfl rfl ?_
      refine TL.load hF rfl (own_mem (upc _ (upc _ (upc _ (upc _ hE.mem)))) hE.nodes) rfl ?_
      refine TL.move hF rfl rfl ?_
      have hrow := hn.frow hi
      have hfr := hok.fr n hi
      have hfew := hok.few n hi
      rw [← nd_eq hi] at hrow hfr hfew
      refine TL.indexAddr hF rfl rfl (hn.ad (i := n) hi) (by omega) (by omega) rfl ?_
      refine TL.fieldAddr hF rfl rfl ?_
      refine TL.load hF rfl (v := .slice (nd l n).fa (nd l n).fr.length (nd l n).fc) (by rw [nd_eq hi]; exact hn.ro.at (i := n) hi 2 rfl) rfl ?_
      refine TL.len hF rfl rfl ?_
      refine TL.move hF rfl rfl ?_
      refine TL.nil ?_
      refine TQ.then_n ?_
      refine T.block ?_
      refine T.loop (ι := Nat × (Nat → Bool)) (fun i => i.1 ≤ (nd l n).fr.length ∧ MidIs l is i.2 n i.1) (fun i => [(3, ptr wb), (26, .slice (nd l n).fa (nd l n).fr.length (nd l n).fc), (27, .int .i64 ((nd l n).fr.length : Int)), (28, .int .i64 (i.1 : Int))]) (fun i => [(wb, Obj.cells #[.func (.func 68) #[] #[ptr hb, ptr bb, ptr wb]] 120 (0, 0))] :: [(hb, Obj.cells #[.slice (some ⟨bi, 0, none⟩) l.length l.length] 62 (0, 0))] :: bseg bi l.length i.2 :: [(bb, Obj.cells #[ptr gb] 89 (0, 0))] :: η) (fun i => (nd l n).fr.length - i.1) (0, upd is n true) ⟨Nat.zero_le _, fun i => ?_⟩ ⟨rfl, rfl, rfl, rfl, trivial⟩ (congrArg (fun z : Heap => [(wb, Obj.cells #[.func (.func 68) #[] #[ptr hb, ptr bb, ptr wb]] 120 (0, 0))] :: [(hb, Obj.cells #[.slice (some ⟨bi, 0, none⟩) l.length l.length] 62 (0, 0))] :: z) (bseg_set (j := n) (by simp) (fun i _ => rfl))) ?_
      · show (if i = n then true else is i) = true ↔ _
        by_cases h : i = n <;> simp [h]
      rintro ⟨j, is1⟩ ⟨hj, hm⟩
      simp only at hj hm
      refine T.seq ?_
      refine T.region ?_
      refine TL.bin hF rfl rfl rfl rfl ?_
      refine TL.nil ?_
      refine TQ.then_n ?_
      refine T.seq ?_
      first | refine T.cond_d rfl (fun ht29 => ?_) (fun ht29 => ?_) | refine T.cond _ rfl (fun ht29 => ?_) (fun ht29 => ?_)
      · refine T.skip ?_
        refine TQ.then_n ?_
        refine T.seq ?_
        refine T.block ?_
        refine T.seq ?_
        refine T.region ?_
        refine TL.indexAddr hF rfl rfl (hrow.adi (i := j) (by rw [List.length_map]; omega)) (by omega) (by omega) rfl ?_
        refine TL.load hF rfl (hrow.ro.int (i := j) (by omega)) rfl ?_
        refine TL.assign hF rfl rfl ?_
        refine TL.nil ?_
        refine TQ.then_n ?_
        refine T.region ?_
        refine TL.load hF rfl (own_mem List.mem_cons_self rfl) rfl ?_
        refine TL.move hF rfl rfl ?_
        have hjl : j < (nd l n).fr.length := by omega
        have hf := hfr ((nd l n).fr[j]'hjl) (List.getElem_mem _)
        rw [← Int.toNat_of_nonneg hf.1]
        refine TL.call hF (IH _ (by omega) is1 (hm.shut hs (by omega))) rfl rfl ?_
        rintro _ _ ⟨is2, rfl, hnow⟩
        refine TL.nil ?_
        refine TQ.block_n ?_
        refine TQ.then_n ?_
        refine T.region ?_
        refine TL.add hF rfl rfl (by omega) (by omega) rfl ?_
        refine TL.move hF rfl rfl ?_
        refine TL.nil ?_
        refine TQ.round (j + 1, is2) ⟨by simp only; omega, hm.succ hjl hnow⟩ (by simp only; omega) ⟨rfl, rfl, rfl, rfl, trivial⟩ rfl
      · refine T.exit ?_
        refine TQ.then_x ?_
        refine TQ.then_x ?_
        refine TQ.block_x ?_
        refine TQ.norm ?_
        refine TQ.rets [] _ rfl rfl rfl ?_
        exact ⟨is1, rfl, hm.last (by omega) ht15⟩
theorem want_fn {gb hb bb wb bi : Nat} {E : Array Value} {na : Option Addr} {l : List NodeD} {nc : Nat} {sa : Option Addr} {pick : List Int} {sc : Nat} (hE : Eng η gb E na l nc sa pick sc) (hn : Nodes S w0 [] na l) (hok : Ok l) : ∀ n, n < l.length → ∀ is, Shut l is n → Rt Tryd.prog 68 [.int .i64 ((n : Nat) : Int), ptr hb, ptr bb, ptr wb].toArray S w0 ([(wb, Obj.cells #[.func (.func 68) #[] #[ptr hb, ptr bb, ptr wb]] 120 (0, 0))] :: [(hb, Obj.cells #[.slice (some ⟨bi, 0, none⟩) l.length l.length] 62 (0, 0))] :: bseg bi l.length is :: [(bb, Obj.cells #[ptr gb] 89 (0, 0))] :: η) (fun _ η' => ∃ is', η' = [(wb, Obj.cells #[.func (.func 68) #[] #[ptr hb, ptr bb, ptr wb]] 120 (0, 0))] :: [(hb, Obj.cells #[.slice (some ⟨bi, 0, none⟩) l.length l.length] 62 (0, 0))] :: bseg bi l.length is' :: [(bb, Obj.cells #[ptr gb] 89 (0, 0))] :: η ∧ NowIs l is is' n) := by
  intro n
  induction n using Nat.strongRecOn with
  | ind n ih => exact fun hi is hs => want_step hE hn hok hi hs (fun f hf is2 hs2 => ih f hf (by omega) is2 hs2)
def AllIs (l : List NodeD) (asks : List Int) (is : Nat → Bool) (k : Nat) : Prop := ∀ i, is i = true ↔ (nd l i).op ≠ 0 ∧ ∃ r, r < k ∧ isRoot l asks r = true ∧ Reach l r i
theorem AllIs.shut {l : List NodeD} {asks : List Int} {is : Nat → Bool} {k : Nat} (h : AllIs l asks is k) (n : Nat) : Shut l is n := by
  intro m _ h1 i hr h0
  obtain ⟨_, r, h2, h3, h4⟩ := (h m).1 h1
  exact (h i).2 ⟨h0, r, h2, h3, h4.trans hr⟩
theorem AllIs.yes {l : List NodeD} {asks : List Int} {is is' : Nat → Bool} {k : Nat} (h : AllIs l asks is k) (hr : isRoot l asks k = true) (h2 : NowIs l is is' k) : AllIs l asks is' (k + 1) := by
  intro i
  rw [h2 i, h i]
  constructor
  · rintro (⟨h0, r, h3, h4, h5⟩ | ⟨h5, h0⟩)
    · exact ⟨h0, r, by omega, h4, h5⟩
    · exact ⟨h0, k, by omega, hr, h5⟩
  · rintro ⟨h0, r, h3, h4, h5⟩
    by_cases hk : r = k
    · subst hk; exact .inr ⟨h5, h0⟩
    · exact .inl ⟨h0, r, by omega, h4, h5⟩
theorem AllIs.no {l : List NodeD} {asks : List Int} {is : Nat → Bool} {k : Nat} (h : AllIs l asks is k) (hr : isRoot l asks k = false) : AllIs l asks is (k + 1) := by
  intro i
  rw [h i]
  constructor
  · rintro ⟨h0, r, h3, h4, h5⟩; exact ⟨h0, r, by omega, h4, h5⟩
  · rintro ⟨h0, r, h3, h4, h5⟩
    refine ⟨h0, r, ?_, h4, h5⟩
    rcases Nat.lt_or_ge r k with h | h
    · exact h
    · have : r = k := by omega
      subst this; rw [hr] at h4; cases h4
theorem AllIs.done {l : List NodeD} {asks : List Int} {is : Nat → Bool} (h : AllIs l asks is l.length) (i : Nat) : is i = wantS l asks i := by
  rw [Bool.eq_iff_iff, h i, wantS_iff]; rfl
set_option maxHeartbeats 2000000 in
theorem wanted_fn {gb : Nat} {E : Array Value} {na : Option Addr} {l : List NodeD} {nc : Nat} {sa : Option Addr} {pick : List Int} {sc : Nat} (hE : Eng η gb E na l nc sa pick sc) (hn : Nodes S w0 [] na l) (hok : Ok l) {aa : Option Addr} {asks : List Int} {ac : Nat} (ha : Row S w0 [] aa (ints asks)) (hal : asks.length < 2 ^ 63) :
    Rt Tryd.prog 62 [ptr gb, .slice aa asks.length ac].toArray S w0 η (fun v η' => ∃ b, v = .slice (some ⟨b, 0, none⟩) l.length l.length ∧ η' = bseg b l.length (wantS l asks) :: η) := by
  have hF := open_wide
  refine Rt.of (fn := Tryd.f62) Tryd.func62 rfl rfl ?_
  refine T.seq ?_
  refine T.region ?_
  refine TL.box hF rfl rfl (fun b2 => ?_)
  refine TL.assign hF rfl rfl ?_
  refine TL.nil ?_
  refine TQ.then_n ?_
  refine T.seq ?_
  refine T.region ?_
  refine TL.load hF rfl (by first | exact At.own' (i := 0) rfl rfl | exact At.own' (i := 1) rfl rfl | exact At.own' (i := 2) rfl rfl | exact At.own' (i := 3) rfl rfl | exact At.own' (i := 4) rfl rfl | exact At.own' (i := 5) rfl rfl | exact At.own' (i := 6) rfl rfl | exact At.own' (i := 7) rfl rfl | exact At.own' (i := 8) rfl rfl | exact At.own' (i := 9) rfl rfl | exact At.own' (i := 10) rfl rfl | exact At.own' (i := 11) rfl rfl | exact At.own' (i := 12) rfl rfl) rfl ?_
  refine TL.nilCheck hF rfl rfl ?_
  refine TL.fieldAddr hF rfl rfl ?_
  refine TL.load hF rfl (own_mem (upc _ hE.mem) hE.nodes) rfl ?_
  refine TL.len hF rfl rfl ?_
  have hlen := hok.len
  refine TL.makeSlice hF rfl rfl rfl (by omega) (by omega) rfl (fun b14 => ?_)
  rw [rowC_false]
  refine TL.alloc hF rfl (fun b5 => ?_)
  first | refine TL.storeI hF 0 rfl rfl rfl rfl (by first | decide | simp) ?_ | refine TL.storeI hF 1 rfl rfl rfl rfl (by first | decide | simp) ?_ | refine TL.storeI hF 2 rfl rfl rfl rfl (by first | decide | simp) ?_ | refine TL.storeI hF 3 rfl rfl rfl rfl (by first | decide | simp) ?_ | refine TL.storeI hF 4 rfl rfl rfl rfl (by first | decide | simp) ?_ | refine TL.storeI hF 5 rfl rfl rfl rfl (by first | decide | simp) ?_
  refine TL.nil ?_
  refine TQ.then_n ?_
  refine T.seq ?_
  refine T.region ?_
  refine TL.alloc hF rfl (fun b6 => ?_)
  refine TL.nil ?_
  refine TQ.then_n ?_
  refine T.seq ?_
  refine T.region ?_
  refine TL.makeFunc hF rfl rfl rfl ?_
  refine TL.storeI hF 0 rfl rfl rfl rfl (by exact Nat.zero_lt_one) ?_
  refine TL.nil ?_
  refine TQ.then_n ?_
  refine T.seq ?_
  refine T.seq ?_
  refine T.region ?_
  refine TL.load hF rfl (by first | exact At.own' (i := 0) rfl rfl | exact At.own' (i := 1) rfl rfl | exact At.own' (i := 2) rfl rfl | exact At.own' (i := 3) rfl rfl | exact At.own' (i := 4) rfl rfl | exact At.own' (i := 5) rfl rfl | exact At.own' (i := 6) rfl rfl | exact At.own' (i := 7) rfl rfl | exact At.own' (i := 8) rfl rfl | exact At.own' (i := 9) rfl rfl | exact At.own' (i := 10) rfl rfl | exact At.own' (i := 11) rfl rfl | exact At.own' (i := 12) rfl rfl) rfl ?_
  refine TL.nilCheck hF rfl rfl ?_
  refine TL.fieldAddr hF rfl rfl ?_
  refine TL.load hF rfl (own_mem (upc _ (upc _ (upc _ (upc _ hE.mem)))) hE.nodes) rfl ?_
  refine TL.len hF rfl rfl ?_
  refine TL.move hF rfl rfl ?_
  refine TL.nil ?_
  refine TQ.then_n ?_
  refine T.block ?_
  refine T.loop (ι := Nat × (Nat → Bool)) (fun i => i.1 ≤ l.length ∧ AllIs l asks i.2 i.1) (fun i => [(1, .slice aa asks.length ac), (4, .slice none 0 0), (5, ptr b5), (6, ptr b6), (19, .slice na l.length nc), (20, .int .i64 (l.length : Int)), (21, .int .i64 (i.1 : Int))]) (fun i => [(b6, Obj.cells #[.func (.func 68) #[] #[ptr b5, ptr b2, ptr b6]] 120 (0, 0))] :: [(b5, Obj.cells #[.slice (some ⟨b14, 0, none⟩) l.length l.length] 62 (0, 0))] :: bseg b14 l.length i.2 :: [(b2, Obj.cells #[ptr gb] 89 (0, 0))] :: η) (fun i => l.length - i.1) (0, fun _ => false) ⟨Nat.zero_le _, fun i => by simp⟩ ⟨rfl, rfl, rfl, rfl, rfl, rfl, rfl, trivial⟩ rfl ?_
  rintro ⟨k, is⟩ ⟨hk, hall⟩
  simp only at hk hall
  refine T.seq ?_
  refine T.region ?_
  refine TL.bin hF rfl rfl rfl rfl ?_
  refine TL.nil ?_
  refine TQ.then_n ?_
  refine T.seq ?_
  first | refine T.cond_d rfl (fun ht22 => ?_) (fun ht22 => ?_) | refine T.cond _ rfl (fun ht22 => ?_) (fun ht22 => ?_)
  · refine T.skip ?_
    refine TQ.then_n ?_
    refine T.seq ?_
    refine T.block ?_
    refine T.seq ?_
    refine T.region ?_
    refine TL.move hF rfl rfl ?_
    refine TL.indexAddr hF rfl rfl (hn.ad (i := k) (by omega)) (by omega) (by omega) rfl ?_
    refine TL.loadA hF (l[k]'(by omega)).cells rfl rfl (hn.ro.atA (i := k) (by omega)) rfl ?_
    refine TL.alloc hF rfl (fun b8 => ?_)
    refine TL.assign hF rfl rfl ?_
    refine TL.storeAI hF (l[k]'(by omega)).cells 0 rfl rfl rfl rfl (ncells1 _) (by simp [Value.cells, ncl]) ?_
    refine TL.nil ?_
    refine TQ.then_n ?_
    refine T.seq ?_
    refine T.region ?_
    refine TL.fieldAddr hF rfl rfl ?_
    refine TL.load hF rfl (by first | exact At.own' (i := 0) rfl rfl | exact At.own' (i := 1) rfl rfl | exact At.own' (i := 2) rfl rfl | exact At.own' (i := 3) rfl rfl | exact At.own' (i := 4) rfl rfl | exact At.own' (i := 5) rfl rfl | exact At.own' (i := 6) rfl rfl | exact At.own' (i := 7) rfl rfl | exact At.own' (i := 8) rfl rfl | exact At.own' (i := 9) rfl rfl | exact At.own' (i := 10) rfl rfl | exact At.own' (i := 11) rfl rfl | exact At.own' (i := 12) rfl rfl) rfl ?_
    refine TL.move hF rfl rfl ?_
    refine TL.gb (t := 28) rfl (fun g7_28 => ?_) (fun g7_28 => ?_)
    · refine TL.off hF rfl rfl rfl g7_28 rfl ?_
      refine TL.off hF rfl rfl rfl g7_28 rfl ?_
      refine TL.off hF rfl rfl rfl g7_28 rfl ?_
      refine TL.pickT hF rfl g7_28 rfl rfl ?_
      refine TL.nil ?_
      refine TQ.then_n ?_
      refine T.cond_t rfl rfl ?_
      refine T.region ?_
      refine TL.hsub ([(b6, Obj.cells #[.func (.func 68) #[] #[ptr b5, ptr b2, ptr b6]] 120 (0, 0))] :: [(b5, Obj.cells #[.slice (some ⟨b14, 0, none⟩) l.length l.length] 62 (0, 0))] :: bseg b14 l.length is :: [(b2, Obj.cells #[ptr gb] 89 (0, 0))] :: η) (List.sublist_cons_self _ _) ?_
      refine TL.load hF rfl (own_mem List.mem_cons_self rfl) rfl ?_
      refine TL.move hF rfl rfl ?_
      refine TL.call hF (want_fn hE hn hok k (by omega) is (hall.shut k)) rfl rfl ?_
      rintro _ _ ⟨is2, rfl, hnow⟩
      refine TL.nil ?_
      refine TQ.block_n ?_
      refine TQ.then_n ?_
      refine T.region ?_
      refine TL.add hF rfl rfl (by omega) (by omega) rfl ?_
      refine TL.move hF rfl rfl ?_
      refine TL.nil ?_
      refine TQ.round (k + 1, is2) ⟨by simp only; omega, hall.yes ?_ hnow⟩ (by simp only; omega) ⟨rfl, rfl, rfl, rfl, rfl, rfl, rfl, trivial⟩ rfl
      unfold isRoot; rw [nd_eq (by omega)]; first | rw [g7_28]; rfl | rw [decide_eq_true ht32, Bool.or_true]
    · refine TL.on rfl rfl rfl g7_28 ?_
      refine TL.move hF rfl rfl ?_
      refine TL.on rfl rfl rfl g7_28 ?_
      refine TL.move hF rfl rfl ?_
      refine TL.on rfl rfl rfl g7_28 ?_
      refine TL.callV hF (Contains_fn (k : Int) ha.ro hal) rfl rfl ?_
      refine TL.pickF hF rfl g7_28 rfl rfl ?_
      refine TL.nil ?_
      refine TQ.then_n ?_
      first | refine T.cond_d rfl (fun ht32 => ?_) (fun ht32 => ?_) | refine T.cond _ rfl (fun ht32 => ?_) (fun ht32 => ?_)
      · refine T.region ?_
        refine TL.hsub ([(b6, Obj.cells #[.func (.func 68) #[] #[ptr b5, ptr b2, ptr b6]] 120 (0, 0))] :: [(b5, Obj.cells #[.slice (some ⟨b14, 0, none⟩) l.length l.length] 62 (0, 0))] :: bseg b14 l.length is :: [(b2, Obj.cells #[ptr gb] 89 (0, 0))] :: η) (List.sublist_cons_self _ _) ?_
        refine TL.load hF rfl (own_mem List.mem_cons_self rfl) rfl ?_
        refine TL.move hF rfl rfl ?_
        refine TL.call hF (want_fn hE hn hok k (by omega) is (hall.shut k)) rfl rfl ?_
        rintro _ _ ⟨is2, rfl, hnow⟩
        refine TL.nil ?_
        refine TQ.block_n ?_
        refine TQ.then_n ?_
        refine T.region ?_
        refine TL.add hF rfl rfl (by omega) (by omega) rfl ?_
        refine TL.move hF rfl rfl ?_
        refine TL.nil ?_
        refine TQ.round (k + 1, is2) ⟨by simp only; omega, hall.yes ?_ hnow⟩ (by simp only; omega) ⟨rfl, rfl, rfl, rfl, rfl, rfl, rfl, trivial⟩ rfl
        unfold isRoot; rw [nd_eq (by omega)]; first | rw [g7_28]; rfl | rw [decide_eq_true ht32, Bool.or_true]
      · refine T.skip ?_
        refine TQ.block_n ?_
        refine TQ.then_n ?_
        refine T.region ?_
        refine TL.add hF rfl rfl (by omega) (by omega) rfl ?_
        refine TL.move hF rfl rfl ?_
        refine TL.nil ?_
        refine TQ.pop ?_
        refine TQ.round (k + 1, is) ⟨by simp only; omega, hall.no ?_⟩ (by simp only; omega) ⟨rfl, rfl, rfl, rfl, rfl, rfl, rfl, trivial⟩ rfl
        unfold isRoot; rw [nd_eq (by omega), g7_28, decide_eq_false ht32]; rfl
  · refine T.exit ?_
    refine TQ.then_x ?_
    refine TQ.then_x ?_
    refine TQ.block_x ?_
    refine TQ.then_n ?_
    refine T.seq ?_
    refine T.region ?_
    refine TL.load hF rfl (by first | exact At.own' (i := 0) rfl rfl | exact At.own' (i := 1) rfl rfl | exact At.own' (i := 2) rfl rfl | exact At.own' (i := 3) rfl rfl | exact At.own' (i := 4) rfl rfl | exact At.own' (i := 5) rfl rfl | exact At.own' (i := 6) rfl rfl | exact At.own' (i := 7) rfl rfl | exact At.own' (i := 8) rfl rfl | exact At.own' (i := 9) rfl rfl | exact At.own' (i := 10) rfl rfl | exact At.own' (i := 11) rfl rfl | exact At.own' (i := 12) rfl rfl) rfl ?_
    refine TL.assign hF rfl rfl ?_
    refine TL.nil ?_
    refine TQ.then_n ?_
    refine T.ret ?_
    have hkn : k = l.length := by omega
    subst hkn
    refine TQ.hsub (bseg b14 l.length is :: η) (List.Sublist.cons _ (List.Sublist.cons _ (List.Sublist.cons_cons _ (List.sublist_cons_self _ _)))) ?_
    refine TQ.rets [4] _ rfl rfl rfl ?_
    exact ⟨b14, rfl, bseg_congr (fun i _ => hall.done i)⟩
end Go.Proofs.YtefkmiomldhmjaaDoor
/- The nodes that are ready, by the program. -/
namespace Go.Proofs.YtefkmiomldhmjaaDoor
open Go.Sl
variable {S : Nat → Prop} {w0 : World} {η : Heap}
theorem filter_enc {n k : Nat} {p : Nat → Bool} (hk : k < n) (hp : p k = true) : (((List.range n).filter p).map fun s : Nat => [Value.int .i64 (s : Int)])[((List.range k).filter p).length]? = some [.int .i64 (k : Int)] := by
  have e : List.range n = List.range k ++ (k :: List.range' (k + 1) (n - k - 1)) := by
    have e : n = k + (1 + (n - k - 1)) := by omega
    conv => lhs; rw [e, List.range_add]
    congr 1
    rw [show 1 + (n - k - 1) = (n - k - 1) + 1 by omega, List.range_succ_eq_map]
    simp [List.range'_eq_map_range, Nat.add_comm, Nat.add_left_comm, Function.comp_def]
  rw [e, List.filter_append, List.filter_cons, if_pos hp, List.map_append, List.getElem?_append_right (by simp)]
  simp
theorem filter_succ {k : Nat} {p : Nat → Bool} : ((List.range (k + 1)).filter p).length = ((List.range k).filter p).length + if p k = true then 1 else 0 := by
  rw [List.range_succ, List.filter_append, List.length_append]
  congr 1
  simp only [List.filter_cons, List.filter_nil]; split <;> simp

def ReadyC (l : List NodeD) (b3 b4 b5 wb now : Nat) (c : EC) (pick : List Int) (x : EX) (s : St) (dn many : Nat) (want : Nat → Bool) (η : Heap) : Prop :=
  [(b3, Obj.cells #[ptr c.gb] 89 (0, 0))] ∈ η ∧ [(b4, Obj.cells #[.slice (some ⟨wb, 0, none⟩) l.length l.length] 62 (0, 0))] ∈ η ∧ [(b5, Obj.cells #[.int .i64 (now : Int)] 3 (0, 0))] ∈ η ∧ [(c.gb, Obj.cells (engV c l.length pick.length x dn many) 88 (0, 0))] ∈ η ∧ bseg wb l.length want ∈ η ∧ iseg c.lb l.length s.L ∈ η
def freeB (l : List NodeD) (s : St) (now : Nat) (f : Int) : Bool := decide ((nd l f.toNat).op = 0) || decide (s.L f.toNat = now)
theorem free_iff {l : List NodeD} {s : St} {now i : Nat} : freeS l s now i = true ↔ ∀ f ∈ (nd l i).fr, freeB l s now f = true := by unfold freeS freeB; rw [List.all_eq_true]
theorem rdy_iff {l : List NodeD} {want : Nat → Bool} {s : St} {now i : Nat} : rdyB l want s now i = true ↔ want i = true ∧ s.L i < now ∧ ∀ f ∈ (nd l i).fr, freeB l s now f = true := by
  unfold rdyB; rw [Bool.and_eq_true, Bool.and_eq_true, decide_eq_true_eq, free_iff, and_assoc]

set_option maxHeartbeats 2000000 in
theorem ready_iter {l : List NodeD} {b3 b4 b5 wb now : Nat} {c : EC} {pick : List Int} {x : EX} {s : St} {dn many : Nat} {want : Nat → Bool} (hn : Nodes S w0 [] c.na l) (hok : Ok l) (hL : ∀ i, i < l.length → s.L i ≤ now) :
    Iter Tryd.prog 71 [] [ptr b4, ptr b3, ptr b5] (((List.range l.length).filter (rdyB l want s now)).map fun s : Nat => [Value.int .i64 (s : Int)]) S w0 (ReadyC l b3 b4 b5 wb now c pick x s dn many want) := by
  intro yl J X η hC hY h0
  have hF := open_wide
  refine Rt.of (fn := Tryd.f71) Tryd.func71 rfl rfl ?_
  refine T.scope ?_
  refine T.seq ?_
  refine T.label ?_
  refine TQ.then_n ?_
  refine T.seq ?_
  refine T.region ?_
  refine TL.load hF rfl (own_mem (hC _ _ h0).2.1 rfl) rfl ?_
  refine TL.len hF rfl rfl ?_
  refine TL.move hF rfl rfl ?_
  refine TL.nil ?_
  refine TQ.then_n ?_
  refine T.block ?_
  have hlen := hok.len
  refine T.loop (ι := Nat × Heap) (fun i => i.1 ≤ l.length ∧ J ((List.range i.1).filter (rdyB l want s now)).length i.2) (fun i => [(0, .func (.yield yl) #[] #[]), (2, ptr b3), (3, ptr b5), (9, .slice (some ⟨wb, 0, none⟩) l.length l.length), (10, .int .i64 (l.length : Int)), (11, .int .i64 (i.1 : Int))]) (fun i => i.2) (fun i => l.length - i.1) (0, η) ⟨Nat.zero_le _, h0⟩ ⟨rfl, rfl, rfl, rfl, rfl, rfl, trivial⟩ rfl ?_
  rintro ⟨k, η1⟩ ⟨hk1, hJ⟩
  simp only at hk1 hJ
  obtain ⟨hc1, hc2, hc3, hc4, hc5, hc6⟩ := hC _ _ hJ
  refine T.seq ?_
  refine T.region ?_
  refine TL.bin hF rfl rfl rfl rfl ?_
  refine TL.nil ?_
  refine TQ.then_n ?_
  refine T.seq ?_
  first | refine T.cond_d rfl (fun ht12 => ?_) (fun ht12 => ?_) | refine T.cond _ rfl (fun ht12 => ?_) (fun ht12 => ?_)
  · refine T.skip ?_
    refine TQ.then_n ?_
    refine T.seq ?_
    refine T.block ?_
    refine T.seq ?_
    refine T.region ?_
    refine TL.move hF rfl rfl ?_
    refine TL.indexAddr hF rfl rfl ⟨_, rfl, rfl⟩ (by omega) (by omega) rfl ?_
    refine TL.load hF rfl (bseg_at (f := want) (n := l.length) (b := wb) (j := k) hc5 (by omega)) rfl ?_
    refine TL.assign hF rfl rfl ?_
    refine TL.assign hF rfl rfl ?_
    refine TL.nil ?_
    refine TQ.then_n ?_
    refine T.seq ?_
    refine T.seq ?_
    have hkl : k < l.length := by omega
    rcases hw : want k with _ | _
    · refine T.draw ?_
      refine DR.stepV [_] rfl [(6, _, none)] rfl rfl ⟨⟨rfl, by kernel_rfl⟩, trivial⟩ (fun ext => TL.move hF rfl rfl TL.fin) ?_
      refine DR.stepV [_, _] rfl [(16, _, some 0)] rfl rfl ⟨⟨rfl, rfl, rfl⟩, trivial⟩ (fun ext => TL.not hF rfl rfl TL.fin) ?_
      refine DR.stepV [_, _, _] rfl [(17, _, some 1)] rfl rfl ⟨⟨rfl, rfl, rfl⟩, trivial⟩ (fun ext => TL.move hF rfl rfl TL.fin) ?_
      refine DR.stepV [_, _, _, _] rfl [(2, _, none), (18, _, some 2)] rfl rfl ⟨⟨rfl, by kernel_rfl⟩, ⟨rfl, rfl, rfl⟩, trivial⟩ (fun ext => TL.off hF rfl rfl rfl rfl rfl TL.fin) ?_
      refine DR.stepV [_, _, _, _, _] rfl [(19, _, some 3), (18, _, some 2)] rfl rfl ⟨⟨rfl, rfl, rfl⟩, ⟨rfl, rfl, rfl⟩, trivial⟩ (fun ext => TL.off hF rfl rfl rfl rfl rfl TL.fin) ?_
      refine DR.stepV [_, _, _, _, _, _] rfl [(20, _, some 4), (18, _, some 2)] rfl rfl ⟨⟨rfl, rfl, rfl⟩, ⟨rfl, rfl, rfl⟩, trivial⟩ (fun ext => TL.off hF rfl rfl rfl rfl rfl TL.fin) ?_
      refine DR.stepV [_, _, _, _, _, _, _] rfl [(21, _, some 5), (18, _, some 2)] rfl rfl ⟨⟨rfl, rfl, rfl⟩, ⟨rfl, rfl, rfl⟩, trivial⟩ (fun ext => TL.off hF rfl rfl rfl rfl rfl TL.fin) ?_
      refine DR.stepV [_, _, _, _, _, _, _, _] rfl [(5, _, none), (18, _, some 2)] rfl rfl ⟨⟨rfl, by kernel_rfl⟩, ⟨rfl, rfl, rfl⟩, trivial⟩ (fun ext => TL.off hF rfl rfl rfl rfl rfl TL.fin) ?_
      refine DR.stepV [_, _, _, _, _, _, _, _, _] rfl [(22, _, some 6), (23, _, some 7), (18, _, some 2)] rfl rfl ⟨⟨rfl, rfl, rfl⟩, ⟨rfl, rfl, rfl⟩, ⟨rfl, rfl, rfl⟩, trivial⟩ (fun ext => TL.off hF rfl rfl rfl rfl rfl TL.fin) ?_
      refine DR.stepV [_, _, _, _, _, _, _, _, _, _] rfl [(24, _, some 8), (18, _, some 2)] rfl rfl ⟨⟨rfl, rfl, rfl⟩, ⟨rfl, rfl, rfl⟩, trivial⟩ (fun ext => TL.off hF rfl rfl rfl rfl rfl TL.fin) ?_
      refine DR.stepV [_, _, _, _, _, _, _, _, _, _, _] rfl [(3, _, none), (18, _, some 2)] rfl rfl ⟨⟨rfl, by kernel_rfl⟩, ⟨rfl, rfl, rfl⟩, trivial⟩ (fun ext => TL.off hF rfl rfl rfl rfl rfl TL.fin) ?_
      refine DR.done [(26, _), (25, _), (24, _), (23, _), (22, _), (21, _), (20, _), (19, _), (18, _), (17, _), (16, _)] [_, _] mixed (by kernel_rfl) (by kernel_rfl) (by kernel_rfl) rfl rfl ?_
      refine TL.off hF rfl rfl rfl rfl rfl ?_
      refine TL.pickT hF rfl rfl rfl rfl ?_
      refine TL.nil ?_
      refine TQ.then_n ?_
      refine T.cond_t rfl rfl ?_
      refine T.exit ?_
      refine TQ.then_x ?_
      refine TQ.block_x ?_
      refine TQ.then_n ?_
      refine T.region ?_
      refine TL.add hF rfl rfl (by omega) (by omega) rfl ?_
      refine TL.move hF rfl rfl ?_
      refine TL.nil ?_
      have hp : ¬ (rdyB l want s now) k = true := fun h => by rw [(rdy_iff.1 h).1] at hw; cases hw
      exact TQ.round (k + 1, η1) ⟨by simp only; omega, by simp only; rw [filter_succ, if_neg hp]; exact hJ⟩ (by simp only; omega) ⟨rfl, rfl, rfl, rfl, rfl, rfl, trivial⟩ rfl
    · refine T.draw ?_
      refine DR.stepV [_] rfl [(6, _, none)] rfl rfl ⟨⟨rfl, by kernel_rfl⟩, trivial⟩ (fun ext => TL.move hF rfl rfl TL.fin) ?_
      refine DR.stepV [_, _] rfl [(16, _, some 0)] rfl rfl ⟨⟨rfl, rfl, rfl⟩, trivial⟩ (fun ext => TL.not hF rfl rfl TL.fin) ?_
      refine DR.stepV [_, _, _] rfl [(17, _, some 1)] rfl rfl ⟨⟨rfl, rfl, rfl⟩, trivial⟩ (fun ext => TL.move hF rfl rfl TL.fin) ?_
      refine DR.stepV [_, _, _, _] rfl [(2, _, none), (18, _, some 2)] rfl rfl ⟨⟨rfl, by kernel_rfl⟩, ⟨rfl, rfl, rfl⟩, trivial⟩ (fun ext => TL.on rfl rfl rfl rfl <| TL.load hF rfl (own_mem hc1 rfl) rfl TL.fin) ?_
      refine DR.stepV [_, _, _, _, _] rfl [(19, _, some 3), (18, _, some 2)] rfl rfl ⟨⟨rfl, rfl, rfl⟩, ⟨rfl, rfl, rfl⟩, trivial⟩ (fun ext => TL.on rfl rfl rfl rfl <| TL.nilCheck hF rfl rfl TL.fin) ?_
      refine DR.stepV [_, _, _, _, _, _] rfl [(20, _, some 4), (18, _, some 2)] rfl rfl ⟨⟨rfl, rfl, rfl⟩, ⟨rfl, rfl, rfl⟩, trivial⟩ (fun ext => TL.on rfl rfl rfl rfl <| TL.fieldAddr hF rfl rfl TL.fin) ?_
      refine DR.stepV [_, _, _, _, _, _, _] rfl [(21, _, some 5), (18, _, some 2)] rfl rfl ⟨⟨rfl, rfl, rfl⟩, ⟨rfl, rfl, rfl⟩, trivial⟩ (fun ext => TL.on rfl rfl rfl rfl <| TL.load hF rfl (own_mem hc4 rfl) rfl TL.fin) ?_
      refine DR.stepV [_, _, _, _, _, _, _, _] rfl [(5, _, none), (18, _, some 2)] rfl rfl ⟨⟨rfl, by kernel_rfl⟩, ⟨rfl, rfl, rfl⟩, trivial⟩ (fun ext => TL.on rfl rfl rfl rfl <| TL.move hF rfl rfl TL.fin) ?_
      refine DR.stepV [_, _, _, _, _, _, _, _, _] rfl [(22, _, some 6), (23, _, some 7), (18, _, some 2)] rfl rfl ⟨⟨rfl, rfl, rfl⟩, ⟨rfl, rfl, rfl⟩, ⟨rfl, rfl, rfl⟩, trivial⟩ (fun ext => TL.on rfl rfl rfl rfl <| TL.indexAddr hF rfl rfl ⟨_, rfl, rfl⟩ (by omega) (by omega) rfl TL.fin) ?_
      refine DR.stepV [_, _, _, _, _, _, _, _, _, _] rfl [(24, _, some 8), (18, _, some 2)] rfl rfl ⟨⟨rfl, rfl, rfl⟩, ⟨rfl, rfl, rfl⟩, trivial⟩ (fun ext => TL.on rfl rfl rfl rfl <| TL.load hF rfl (iseg_at (f := s.L) (n := l.length) (b := c.lb) (j := k) hc6 hkl) rfl TL.fin) ?_
      refine DR.stepV [_, _, _, _, _, _, _, _, _, _, _] rfl [(3, _, none), (18, _, some 2)] rfl rfl ⟨⟨rfl, by kernel_rfl⟩, ⟨rfl, rfl, rfl⟩, trivial⟩ (fun ext => TL.on rfl rfl rfl rfl <| TL.load hF rfl (own_mem hc3 rfl) rfl TL.fin) ?_
      refine DR.done [(26, _), (25, _), (24, _), (23, _), (22, _), (21, _), (20, _), (19, _), (18, _), (17, _), (16, _)] [_, _] mixed (by kernel_rfl) (by kernel_rfl) (by kernel_rfl) rfl rfl ?_
      refine TL.on rfl rfl rfl rfl ?_
      refine TL.bin hF rfl rfl rfl rfl ?_
      refine TL.pickF hF rfl rfl rfl rfl ?_
      refine TL.nil ?_
      refine TQ.then_n ?_
      first | refine T.cond_d rfl (fun ht28 => ?_) (fun ht28 => ?_) | refine T.cond _ rfl (fun ht28 => ?_) (fun ht28 => ?_)
      · refine T.exit ?_
        refine TQ.then_x ?_
        refine TQ.block_x ?_
        refine TQ.then_n ?_
        refine T.region ?_
        refine TL.add hF rfl rfl (by omega) (by omega) rfl ?_
        refine TL.move hF rfl rfl ?_
        refine TL.nil ?_
        have hp : ¬ (rdyB l want s now) k = true := fun h => by have := (rdy_iff.1 h).2.1; omega
        exact TQ.round (k + 1, η1) ⟨by simp only; omega, by simp only; rw [filter_succ, if_neg hp]; exact hJ⟩ (by simp only; omega) ⟨rfl, rfl, rfl, rfl, rfl, rfl, trivial⟩ rfl
      · refine T.skip ?_
        refine TQ.then_n ?_
        refine T.seq ?_
        refine T.seq ?_
        refine T.region ?_
        refine TL.load hF rfl (own_mem hc1 rfl) rfl ?_
        refine TL.nilCheck hF rfl rfl ?_
        refine TL.fieldAddr hF rfl rfl ?_
        refine TL.load hF rfl (own_mem hc4 rfl) rfl ?_
        refine TL.move hF rfl rfl ?_
        have hrow := hn.frow hkl
        have hfr := hok.fr k hkl
        have hfew := hok.few k hkl
        rw [← nd_eq hkl] at hrow hfr hfew
        refine TL.indexAddr hF rfl rfl (hn.ad (i := k) hkl) (by omega) (by omega) rfl ?_
        refine TL.fieldAddr hF rfl rfl ?_
        refine TL.load hF rfl (v := .slice (nd l k).fa (nd l k).fr.length (nd l k).fc) (by rw [nd_eq hkl]; exact hn.ro.at (i := k) hkl 2 rfl) rfl ?_
        refine TL.len hF rfl rfl ?_
        refine TL.move hF rfl rfl ?_
        refine TL.nil ?_
        refine TQ.then_n ?_
        refine T.block ?_
        refine T.loop (ι := Nat) (fun j => j ≤ (nd l k).fr.length ∧ ∀ f ∈ (nd l k).fr.take j, freeB l s now f = true) (fun j => [(0, .func (.yield yl) #[] #[]), (2, ptr b3), (3, ptr b5), (9, .slice (some ⟨wb, 0, none⟩) l.length l.length), (10, .int .i64 (l.length : Int)), (5, .int .i64 (k : Int)), (11, .int .i64 (k : Int)), (36, .slice (nd l k).fa (nd l k).fr.length (nd l k).fc), (37, .int .i64 ((nd l k).fr.length : Int)), (38, .int .i64 (j : Int))]) (fun _ => η1) (fun j => (nd l k).fr.length - j) 0 ⟨Nat.zero_le _, by simp⟩ ⟨rfl, rfl, rfl, rfl, rfl, rfl, rfl, rfl, rfl, rfl, trivial⟩ rfl ?_
        rintro j ⟨hj, hall⟩
        refine T.seq ?_
        refine T.region ?_
        refine TL.bin hF rfl rfl rfl rfl ?_
        refine TL.nil ?_
        refine TQ.then_n ?_
        refine T.seq ?_
        first | refine T.cond_d rfl (fun ht39 => ?_) (fun ht39 => ?_) | refine T.cond _ rfl (fun ht39 => ?_) (fun ht39 => ?_)
        · refine T.skip ?_
          refine TQ.then_n ?_
          refine T.seq ?_
          refine T.block ?_
          refine T.seq ?_
          refine T.region ?_
          refine TL.indexAddr hF rfl rfl (hrow.adi (i := j) (by rw [List.length_map]; omega)) (by omega) (by omega) rfl ?_
          refine TL.load hF rfl (hrow.ro.int (i := j) (by omega)) rfl ?_
          refine TL.assign hF rfl rfl ?_
          refine TL.nil ?_
          refine TQ.then_n ?_
          refine T.seq ?_
          have hjl : j < (nd l k).fr.length := by omega
          have hf := hfr ((nd l k).fr[j]'hjl) (List.getElem_mem _)
          rcases hop : decide ((nd l ((nd l k).fr[j]'hjl).toNat).op = 0) with _ | _
          · refine T.draw ?_
            refine DR.stepV [_] rfl [(2, _, none)] rfl rfl ⟨⟨rfl, by kernel_rfl⟩, trivial⟩ (fun ext => TL.load hF rfl (own_mem hc1 rfl) rfl TL.fin) ?_
            refine DR.stepV [_, _] rfl [(8, _, none)] rfl rfl ⟨⟨rfl, by kernel_rfl⟩, trivial⟩ (fun ext => TL.move hF rfl rfl TL.fin) ?_
            refine DR.stepV [_, _, _] rfl [(42, _, some 0), (43, _, some 1)] rfl rfl ⟨⟨rfl, rfl, rfl⟩, ⟨rfl, rfl, rfl⟩, trivial⟩ (fun ext => TL.callV hF (input_fn (E := engV c l.length pick.length x dn many) ⟨hc4, rfl, rfl⟩ hn (by omega)) rfl rfl TL.fin) ?_
            refine DR.stepV [_, _, _, _] rfl [(44, _, some 2)] rfl rfl ⟨⟨rfl, rfl, rfl⟩, trivial⟩ (fun ext => TL.not hF rfl rfl TL.fin) ?_
            refine DR.stepV [_, _, _, _, _] rfl [(45, _, some 3)] rfl rfl ⟨⟨rfl, rfl, rfl⟩, trivial⟩ (fun ext => TL.move hF rfl rfl TL.fin) ?_
            refine DR.stepV [_, _, _, _, _, _] rfl [(2, _, none), (46, _, some 4)] rfl rfl ⟨⟨rfl, by kernel_rfl⟩, ⟨rfl, rfl, rfl⟩, trivial⟩ (fun ext => TL.on rfl rfl rfl (by rw [hop]; rfl) <| TL.load hF rfl (own_mem hc1 rfl) rfl TL.fin) ?_
            refine DR.stepV [_, _, _, _, _, _, _] rfl [(47, _, some 5), (46, _, some 4)] rfl rfl ⟨⟨rfl, rfl, rfl⟩, ⟨rfl, rfl, rfl⟩, trivial⟩ (fun ext => TL.on rfl rfl rfl (by rw [hop]; rfl) <| TL.nilCheck hF rfl rfl TL.fin) ?_
            refine DR.stepV [_, _, _, _, _, _, _, _] rfl [(48, _, some 6), (46, _, some 4)] rfl rfl ⟨⟨rfl, rfl, rfl⟩, ⟨rfl, rfl, rfl⟩, trivial⟩ (fun ext => TL.on rfl rfl rfl (by rw [hop]; rfl) <| TL.fieldAddr hF rfl rfl TL.fin) ?_
            refine DR.stepV [_, _, _, _, _, _, _, _, _] rfl [(49, _, some 7), (46, _, some 4)] rfl rfl ⟨⟨rfl, rfl, rfl⟩, ⟨rfl, rfl, rfl⟩, trivial⟩ (fun ext => TL.on rfl rfl rfl (by rw [hop]; rfl) <| TL.load hF rfl (own_mem hc4 rfl) rfl TL.fin) ?_
            refine DR.stepV [_, _, _, _, _, _, _, _, _, _] rfl [(8, _, none), (46, _, some 4)] rfl rfl ⟨⟨rfl, by kernel_rfl⟩, ⟨rfl, rfl, rfl⟩, trivial⟩ (fun ext => TL.on rfl rfl rfl (by rw [hop]; rfl) <| TL.move hF rfl rfl TL.fin) ?_
            refine DR.stepV [_, _, _, _, _, _, _, _, _, _, _] rfl [(50, _, some 8), (51, _, some 9), (46, _, some 4)] rfl rfl ⟨⟨rfl, rfl, rfl⟩, ⟨rfl, rfl, rfl⟩, ⟨rfl, rfl, rfl⟩, trivial⟩ (fun ext => TL.on rfl rfl rfl (by rw [hop]; rfl) <| TL.indexAddr hF rfl rfl ⟨_, rfl, rfl⟩ (by omega) (by omega) rfl TL.fin) ?_
            refine DR.stepV [_, _, _, _, _, _, _, _, _, _, _, _] rfl [(52, _, some 10), (46, _, some 4)] rfl rfl ⟨⟨rfl, rfl, rfl⟩, ⟨rfl, rfl, rfl⟩, trivial⟩ (fun ext => TL.on rfl rfl rfl (by rw [hop]; rfl) <| TL.load hF rfl (iseg_at (f := s.L) (n := l.length) (b := c.lb) (j := ((nd l k).fr[j]'hjl).toNat) hc6 (by omega)) rfl TL.fin) ?_
            refine DR.stepV [_, _, _, _, _, _, _, _, _, _, _, _, _] rfl [(3, _, none), (46, _, some 4)] rfl rfl ⟨⟨rfl, by kernel_rfl⟩, ⟨rfl, rfl, rfl⟩, trivial⟩ (fun ext => TL.on rfl rfl rfl (by rw [hop]; rfl) <| TL.load hF rfl (own_mem hc3 rfl) rfl TL.fin) ?_
            refine DR.done [(54, _), (53, _), (52, _), (51, _), (50, _), (49, _), (48, _), (47, _), (46, _), (45, _), (44, _), (43, _), (42, _)] [_, _] mixed (by kernel_rfl) (by kernel_rfl) (by kernel_rfl) rfl rfl ?_
            refine TL.on rfl rfl rfl (by rw [hop]; rfl) ?_
            refine TL.bin hF rfl rfl rfl rfl ?_
            refine TL.pickT hF rfl (by rw [hop]; rfl) rfl rfl ?_
            refine TL.nil ?_
            refine TQ.then_n ?_
            first | refine T.cond_d rfl (fun ht56 => ?_) (fun ht56 => ?_) | refine T.cond _ rfl (fun ht56 => ?_) (fun ht56 => ?_)
            · refine T.exit ?_
              refine TQ.block_o rfl ?_
              refine TQ.then_x ?_
              refine TQ.then_x ?_
              refine TQ.block_o rfl ?_
              refine TQ.then_x ?_
              refine TQ.block_x ?_
              refine TQ.then_n ?_
              refine T.region ?_
              refine TL.add hF rfl rfl (by omega) (by omega) rfl ?_
              refine TL.move hF rfl rfl ?_
              refine TL.nil ?_
              have hp : ¬ (rdyB l want s now) k = true := fun h => by
                have := (rdy_iff.1 h).2.2 ((nd l k).fr[j]'hjl) (List.getElem_mem _)
                unfold freeB at this; rw [hop, decide_eq_false (by omega)] at this; cases this
              exact TQ.round (k + 1, η1) ⟨by simp only; omega, by simp only; rw [filter_succ, if_neg hp]; exact hJ⟩ (by simp only; omega) ⟨rfl, rfl, rfl, rfl, rfl, rfl, trivial⟩ rfl
            · refine T.skip ?_
              refine TQ.block_n ?_
              refine TQ.then_n ?_
              refine T.region ?_
              refine TL.add hF rfl rfl (by omega) (by omega) rfl ?_
              refine TL.move hF rfl rfl ?_
              refine TL.nil ?_
              refine TQ.round (j + 1) ⟨by omega, fun f hf => ?_⟩ (by omega) ⟨rfl, rfl, rfl, rfl, rfl, rfl, rfl, rfl, rfl, rfl, trivial⟩ rfl
              rw [List.take_succ_eq_append_getElem hjl] at hf
              rcases List.mem_append.1 hf with hf | hf
              · exact hall f hf
              · rw [List.mem_singleton.1 hf]; unfold freeB; rw [decide_eq_true (p := s.L _ = _) (by omega), Bool.or_true]
          · refine T.draw ?_
            refine DR.stepV [_] rfl [(2, _, none)] rfl rfl ⟨⟨rfl, by kernel_rfl⟩, trivial⟩ (fun ext => TL.load hF rfl (own_mem hc1 rfl) rfl TL.fin) ?_
            refine DR.stepV [_, _] rfl [(8, _, none)] rfl rfl ⟨⟨rfl, by kernel_rfl⟩, trivial⟩ (fun ext => TL.move hF rfl rfl TL.fin) ?_
            refine DR.stepV [_, _, _] rfl [(42, _, some 0), (43, _, some 1)] rfl rfl ⟨⟨rfl, rfl, rfl⟩, ⟨rfl, rfl, rfl⟩, trivial⟩ (fun ext => TL.callV hF (input_fn (E := engV c l.length pick.length x dn many) ⟨hc4, rfl, rfl⟩ hn (by omega)) rfl rfl TL.fin) ?_
            refine DR.stepV [_, _, _, _] rfl [(44, _, some 2)] rfl rfl ⟨⟨rfl, rfl, rfl⟩, trivial⟩ (fun ext => TL.not hF rfl rfl TL.fin) ?_
            refine DR.stepV [_, _, _, _, _] rfl [(45, _, some 3)] rfl rfl ⟨⟨rfl, rfl, rfl⟩, trivial⟩ (fun ext => TL.move hF rfl rfl TL.fin) ?_
            refine DR.stepV [_, _, _, _, _, _] rfl [(2, _, none), (46, _, some 4)] rfl rfl ⟨⟨rfl, by kernel_rfl⟩, ⟨rfl, rfl, rfl⟩, trivial⟩ (fun ext => TL.off hF rfl rfl rfl (by rw [hop] <;> rfl) rfl TL.fin) ?_
            refine DR.stepV [_, _, _, _, _, _, _] rfl [(47, _, some 5), (46, _, some 4)] rfl rfl ⟨⟨rfl, rfl, rfl⟩, ⟨rfl, rfl, rfl⟩, trivial⟩ (fun ext => TL.off hF rfl rfl rfl (by rw [hop] <;> rfl) rfl TL.fin) ?_
            refine DR.stepV [_, _, _, _, _, _, _, _] rfl [(48, _, some 6), (46, _, some 4)] rfl rfl ⟨⟨rfl, rfl, rfl⟩, ⟨rfl, rfl, rfl⟩, trivial⟩ (fun ext => TL.off hF rfl rfl rfl (by rw [hop] <;> rfl) rfl TL.fin) ?_
            refine DR.stepV [_, _, _, _, _, _, _, _, _] rfl [(49, _, some 7), (46, _, some 4)] rfl rfl ⟨⟨rfl, rfl, rfl⟩, ⟨rfl, rfl, rfl⟩, trivial⟩ (fun ext => TL.off hF rfl rfl rfl (by rw [hop] <;> rfl) rfl TL.fin) ?_
            refine DR.stepV [_, _, _, _, _, _, _, _, _, _] rfl [(8, _, none), (46, _, some 4)] rfl rfl ⟨⟨rfl, by kernel_rfl⟩, ⟨rfl, rfl, rfl⟩, trivial⟩ (fun ext => TL.off hF rfl rfl rfl (by rw [hop] <;> rfl) rfl TL.fin) ?_
            refine DR.stepV [_, _, _, _, _, _, _, _, _, _, _] rfl [(50, _, some 8), (51, _, some 9), (46, _, some 4)] rfl rfl ⟨⟨rfl, rfl, rfl⟩, ⟨rfl, rfl, rfl⟩, ⟨rfl, rfl, rfl⟩, trivial⟩ (fun ext => TL.off hF rfl rfl rfl (by rw [hop] <;> rfl) rfl TL.fin) ?_
            refine DR.stepV [_, _, _, _, _, _, _, _, _, _, _, _] rfl [(52, _, some 10), (46, _, some 4)] rfl rfl ⟨⟨rfl, rfl, rfl⟩, ⟨rfl, rfl, rfl⟩, trivial⟩ (fun ext => TL.off hF rfl rfl rfl (by rw [hop] <;> rfl) rfl TL.fin) ?_
            refine DR.stepV [_, _, _, _, _, _, _, _, _, _, _, _, _] rfl [(3, _, none), (46, _, some 4)] rfl rfl ⟨⟨rfl, by kernel_rfl⟩, ⟨rfl, rfl, rfl⟩, trivial⟩ (fun ext => TL.off hF rfl rfl rfl (by rw [hop] <;> rfl) rfl TL.fin) ?_
            refine DR.done [(54, _), (53, _), (52, _), (51, _), (50, _), (49, _), (48, _), (47, _), (46, _), (45, _), (44, _), (43, _), (42, _)] [_, _] mixed (by kernel_rfl) (by kernel_rfl) (by kernel_rfl) rfl rfl ?_
            refine TL.off hF rfl rfl rfl (by rw [hop] <;> rfl) rfl ?_
            refine TL.pickF hF rfl (by rw [hop] <;> rfl) rfl rfl ?_
            refine TL.nil ?_
            refine TQ.then_n ?_
            refine T.cond_f rfl rfl ?_
            refine T.skip ?_
            refine TQ.block_n ?_
            refine TQ.then_n ?_
            refine T.region ?_
            refine TL.add hF rfl rfl (by omega) (by omega) rfl ?_
            refine TL.move hF rfl rfl ?_
            refine TL.nil ?_
            refine TQ.round (j + 1) ⟨by omega, fun f hf => ?_⟩ (by omega) ⟨rfl, rfl, rfl, rfl, rfl, rfl, rfl, rfl, rfl, rfl, trivial⟩ rfl
            rw [List.take_succ_eq_append_getElem hjl] at hf
            rcases List.mem_append.1 hf with hf | hf
            · exact hall f hf
            · rw [List.mem_singleton.1 hf]; unfold freeB; rw [hop]; rfl
        · refine T.exit ?_
          refine TQ.then_x ?_
          refine TQ.then_x ?_
          refine TQ.block_x ?_
          refine TQ.then_n ?_
          refine T.seq ?_
          refine T.region ?_
          refine TL.move hF rfl rfl ?_
          refine TL.move hF rfl rfl ?_
          have hp : (rdyB l want s now) k = true := rdy_iff.2 ⟨hw, by have := hL k hkl; omega, by rw [List.take_of_length_le (by omega)] at hall; exact hall⟩
          refine TL.yield rfl rfl rfl (hY _ _ _ (filter_enc (p := (rdyB l want s now)) hkl hp) hJ) rfl (fun yb η2 hyb => ?_)
          refine TL.not hF rfl rfl ?_
          refine TL.nil ?_
          refine TQ.then_n ?_
          refine T.cond _ rfl (fun ht61 => ?_) (fun ht61 => ?_)
          · refine T.ret ?_
            refine TQ.block_r ?_
            refine TQ.then_r ?_
            refine TQ.then_r ?_
            refine TQ.block_r ?_
            refine TQ.scope_r ?_
            refine TQ.rets [] _ rfl rfl rfl ?_
            have hyf : yb = false := by simpa using ht61
            subst hyf
            exact .inr hyb
          · refine T.skip ?_
            refine TQ.block_n ?_
            refine TQ.then_n ?_
            refine T.region ?_
            refine TL.add hF rfl rfl (by omega) (by omega) rfl ?_
            refine TL.move hF rfl rfl ?_
            refine TL.nil ?_
            have hyt : yb = true := by simpa using ht61
            subst hyt
            exact TQ.round (k + 1, η2) ⟨by simp only; omega, by simp only; rw [filter_succ, if_pos hp]; exact hyb⟩ (by simp only; omega) ⟨rfl, rfl, rfl, rfl, rfl, rfl, trivial⟩ rfl
  · refine T.exit ?_
    refine TQ.then_x ?_
    refine TQ.then_x ?_
    refine TQ.block_x ?_
    refine TQ.scope_n ?_
    refine TQ.norm ?_
    refine TQ.rets [] _ rfl rfl rfl ?_
    have hkn : k = l.length := by have h : ¬ (k : Int) < l.length := ht12; omega
    subst hkn
    left; simpa using hJ
set_option maxHeartbeats 2000000 in
theorem ready_fn {gb wb n now : Nat} :
    Rt Tryd.prog 64 [ptr gb, .slice (some ⟨wb, 0, none⟩) n n, .int .i64 (now : Int)].toArray S w0 η (fun v η' => ∃ b3 b4 b5, v = .func (.func 71) #[] #[ptr b4, ptr b3, ptr b5] ∧ η' = [(b5, Obj.cells #[.int .i64 (now : Int)] 3 (0, 0))] :: [(b4, Obj.cells #[.slice (some ⟨wb, 0, none⟩) n n] 62 (0, 0))] :: [(b3, Obj.cells #[ptr gb] 89 (0, 0))] :: η) := by
  have hF := open_wide
  refine Rt.of (fn := Tryd.f64) Tryd.func64 rfl rfl ?_
  refine T.seq ?_
  refine T.region ?_
  refine TL.box hF rfl rfl (fun b3 => ?_)
  refine TL.box hF rfl rfl (fun b4 => ?_)
  refine TL.box hF rfl rfl (fun b5 => ?_)
  refine TL.assign hF rfl rfl ?_
  refine TL.nil ?_
  refine TQ.then_n ?_
  refine T.seq ?_
  refine T.region ?_
  refine TL.makeFunc hF rfl rfl rfl ?_
  refine TL.assign hF rfl rfl ?_
  refine TL.nil ?_
  refine TQ.then_n ?_
  refine T.ret ?_
  refine TQ.rets [6] _ rfl rfl rfl ?_
  exact ⟨b3, b4, b5, rfl, rfl⟩
end Go.Proofs.YtefkmiomldhmjaaDoor
/- What an instant does, in steps: plain facts for the walks of both. -/
namespace Go.Proofs.YtefkmiomldhmjaaDoor
open Go.Sl
theorem setsF_succ {W : Nat → Int} {sets : List SetD} {j : Nat} (hj : j < sets.length) : setsF W (sets.take (j + 1)) = upd (setsF W (sets.take j)) sets[j].node.toNat sets[j].word := by
  unfold setsF; rw [List.take_succ_eq_append_getElem hj, List.foldl_append]; rfl
theorem setsOk_get {l : List NodeD} {sets : List SetD} (h : setsOk l sets = true) {x : SetD} (hx : x ∈ sets) : (0 ≤ x.node ∧ x.node < l.length) ∧ (nd l x.node.toNat).op = 0 ∧ (-2147483648 ≤ x.word ∧ x.word ≤ 2147483647) := by
  unfold setsOk at h
  have := List.all_eq_true.1 h x hx
  simp only [Bool.and_eq_true, decide_eq_true_eq] at this
  exact ⟨inN_iff.1 this.1.1, this.1.2, isW_iff.1 this.2⟩
theorem asksOk_get {l : List NodeD} {asks : List Int} (h : asksOk l asks = true) {a : Int} (hx : a ∈ asks) : 0 ≤ a ∧ a < l.length := inN_iff.1 (List.all_eq_true.1 h a hx)
theorem instsE_ok {l : List NodeD} : ∀ {all : List InstD}, instsE l all = 0 → ∀ i (h : i < all.length), instE l all[i] = 0
  | x :: r, h, i, hi => by
    unfold instsE at h
    split at h
    · rename_i h0
      cases i with
      | zero => exact h0
      | succ i => exact instsE_ok h i (by simpa using hi)
    · rename_i h0; exact absurd h h0
theorem instE_ok {l : List NodeD} {x : InstD} (h : instE l x = 0) : x.sets.length ≤ 10 ∧ x.asks.length ≤ 10 ∧ setsOk l x.sets = true ∧ asksOk l x.asks = true := by
  unfold instE at h
  split at h
  · rename_i h1
    split at h
    · rename_i h2; rw [Bool.and_eq_true] at h2; exact ⟨h1.1, h1.2, h2.1, h2.2⟩
    · omega
  · omega
theorem restE_ok {l : List NodeD} {all : List InstD} {pick : List Int} (h : restE l all pick = 0) : all.length ≤ 30 ∧ pick.length ≤ 200 ∧ (∀ p ∈ pick, 0 ≤ p) ∧ ∀ i (h : i < all.length), instE l all[i] = 0 := by
  unfold restE at h
  split at h
  · rename_i h1
    split at h
    · rename_i h2
      refine ⟨h1.1, h1.2, fun p hp => ?_, instsE_ok h⟩
      have := List.all_eq_true.1 h2 p hp
      simp only [Bool.and_eq_true, decide_eq_true_eq] at this; exact this.1
    · omega
  · omega
/-- How many nodes were not looked at. -/
def unl (l : List NodeD) (s : St) (now : Nat) : Nat := ((List.range l.length).filter fun i => decide (s.L i < now)).length
theorem unl_le (l : List NodeD) (s : St) (now : Nat) : unl l s now ≤ l.length := by
  have := List.length_filter_le (fun i => decide (s.L i < now)) (List.range l.length)
  unfold unl; simpa using this
theorem lookS_L (l : List NodeD) (now : Nat) (s : St) (i : Nat) : (lookS l now s i).L = upd s.L i now := by unfold lookS; split <;> rfl
theorem lookS_used (l : List NodeD) (now : Nat) (s : St) (i : Nat) : (lookS l now s i).used = s.used + 1 := by unfold lookS; split <;> rfl
theorem doneS_len (l : List NodeD) (now : Nat) (s : St) (i : Nat) : (doneS l now s i).length ≤ 1 := by unfold doneS; split <;> simp
theorem unl_look {l : List NodeD} {s : St} {now i : Nat} (hi : i < l.length) (hL : s.L i < now) : unl l (lookS l now s i) now + 1 ≤ unl l s now := by
  unfold unl
  rw [lookS_L]
  have hnd : (i :: (List.range l.length).filter fun j => decide (upd s.L i (now : Int) j < now)).Nodup := by
    refine List.nodup_cons.2 ⟨fun h => ?_, List.nodup_range.filter _⟩
    have := (List.mem_filter.1 h).2
    rw [upd_same] at this; simp at this
  have := hnd.length_le_of_subset (l₂ := (List.range l.length).filter fun j => decide (s.L j < now)) (fun j hj => by
    rcases List.mem_cons.1 hj with rfl | hj
    · exact List.mem_filter.2 ⟨List.mem_range.2 hi, by simpa using hL⟩
    · obtain ⟨h1, h2⟩ := List.mem_filter.1 hj
      refine List.mem_filter.2 ⟨h1, ?_⟩
      by_cases e : j = i
      · subst e; simpa using hL
      · rw [upd_ne _ _ e] at h2; exact h2)
  simpa using this
theorem ready_mem' {l : List NodeD} {want : Nat → Bool} {s : St} {now i : Nat} : i ∈ readyS l want s now ↔ i < l.length ∧ rdyB l want s now i = true := by unfold readyS; simp [List.mem_filter]
theorem ready_unl {l : List NodeD} {want : Nat → Bool} {s : St} {now : Nat} (h : (readyS l want s now).length ≠ 0) : 1 ≤ unl l s now := by
  cases hr : readyS l want s now with
  | nil => rw [hr] at h; simp at h
  | cons i r =>
    have hi : i ∈ readyS l want s now := by rw [hr]; exact List.mem_cons_self
    obtain ⟨h1, h2⟩ := ready_mem'.1 hi
    have h3 : i ∈ (List.range l.length).filter fun j => decide (s.L j < now) := List.mem_filter.2 ⟨List.mem_range.2 h1, by simpa using (rdy_iff.1 h2).2.1⟩
    unfold unl; exact List.length_pos_of_mem h3
theorem runI_stop {l : List NodeD} {want : Nat → Bool} {now : Nat} {pick : List Int} {s : St} (h : (readyS l want s now).length = 0) : ∀ f, runI l want now pick f s = ([], 0, s)
  | 0 => rfl
  | f + 1 => by unfold runI; rw [if_pos h]
theorem runI_go {l : List NodeD} {want : Nat → Bool} {now : Nat} {pick : List Int} {s : St} (h : (readyS l want s now).length ≠ 0) (f : Nat) :
    runI l want now pick (f + 1) s = (doneS l now s (nextS pick s (readyS l want s now)) ++ (runI l want now pick f (lookS l now s (nextS pick s (readyS l want s now)))).1, (runI l want now pick f (lookS l now s (nextS pick s (readyS l want s now)))).2.1 + 1, (runI l want now pick f (lookS l now s (nextS pick s (readyS l want s now)))).2.2) := by
  conv => lhs; unfold runI
  rw [if_neg h]
theorem nextS_mem {pick : List Int} {s : St} {r : List Nat} (h : r.length ≠ 0) : nextS pick s r ∈ r := by
  have hw : whichS pick s.used r.length < r.length := by
    unfold whichS; split
    · omega
    · exact Nat.mod_lt _ (by omega)
  unfold nextS; rw [List.getD_eq_getElem?_getD, List.getElem?_eq_getElem hw]; exact List.getElem_mem _
end Go.Proofs.YtefkmiomldhmjaaDoor
/- The state of a run in memory, and what its steps keep. -/
namespace Go.Proofs.YtefkmiomldhmjaaDoor
open Go.Sl
variable {S : Nat → Prop} {w0 : World} {η : Heap}
abbrev nats (l : List Nat) : List Value := l.map fun (b : Nat) => Value.int .i64 (b : Int)
theorem mid {α : Type} (P A B : List α) : (P ++ (A ++ B)).Perm (A ++ (P ++ B)) := by
  rw [← List.append_assoc, ← List.append_assoc]; exact List.perm_append_comm.append_right B
/-! What is set -/
def SetIs (l : List NodeD) (sets : List SetD) (m : List (Int × Int)) : Prop :=
  (∀ (W : Nat → Int) (i : Nat), setsF W sets i = (mget (i : Int) m).getD (W i)) ∧ ∀ p ∈ m, (0 ≤ p.1 ∧ p.1 < l.length) ∧ (nd l p.1.toNat).op = 0 ∧ (-2147483648 ≤ p.2 ∧ p.2 ≤ 2147483647)
theorem mem_mput {α β : Type} [DecidableEq α] {k : α} {v : β} {p : α × β} : ∀ {m : List (α × β)}, p ∈ mput k v m → p = (k, v) ∨ p ∈ m
  | [], h => by simp [mput] at h; exact .inl h
  | (a, b) :: r, h => by
    unfold mput at h
    split at h
    · rename_i e
      rcases List.mem_cons.1 h with h | h
      · subst e; exact .inl h
      · exact .inr (List.mem_cons_of_mem _ h)
    · rcases List.mem_cons.1 h with h | h
      · exact .inr (by rw [h]; exact List.mem_cons_self)
      · rcases mem_mput h with h | h
        · exact .inl h
        · exact .inr (List.mem_cons_of_mem _ h)
theorem SetIs.nil (l : List NodeD) : SetIs l [] [] := ⟨fun W i => by simp [setsF, mget], by simp⟩
theorem SetIs.put {l : List NodeD} {sets : List SetD} {m : List (Int × Int)} {j : Nat} (h : SetIs l (sets.take j) m) (hj : j < sets.length) (hok : setsOk l sets = true) : SetIs l (sets.take (j + 1)) (mput sets[j].node sets[j].word m) := by
  have hs := setsOk_get hok (List.getElem_mem hj)
  refine ⟨fun W i => ?_, fun p hp => ?_⟩
  · rw [setsF_succ hj, mget_mput]
    by_cases e : i = sets[j].node.toNat
    · subst e; rw [upd_same, if_pos (by omega)]; rfl
    · rw [upd_ne _ _ e, if_neg (by omega), h.1]
  · rcases mem_mput hp with rfl | hp
    · exact hs
    · exact h.2 p hp
/-- The state while the sets are gone through. -/
def afterD (s : St) (m : List (Int × Int)) (done : List Int) (now : Nat) : St :=
  ⟨fun j => if (j : Int) ∈ done then (mget (j : Int) m).getD (s.W j) else s.W j, fun j => if (j : Int) ∈ done ∧ (mget (j : Int) m).getD (s.W j) ≠ s.W j then (now : Int) else s.O j, s.L, s.used⟩
theorem afterD_nil (s : St) (m : List (Int × Int)) (now : Nat) : afterD s m [] now = s := by unfold afterD; simp
theorem afterD_end {l : List NodeD} {s : St} {x : InstD} {m : List (Int × Int)} {done : List Int} {now : Nat} (h : SetIs l x.sets m) (hd : ∀ p ∈ m, p.1 ∈ done) : afterD s m done now = afterSets x now s := by
  have key : ∀ j : Nat, (if (j : Int) ∈ done then (mget (j : Int) m).getD (s.W j) else s.W j) = setsF s.W x.sets j := fun j => by
    rw [h.1]
    by_cases hj : (j : Int) ∈ done
    · rw [if_pos hj]
    · rw [if_neg hj, mget_none.2 (fun p hp (e : p.1 = (j : Int)) => hj (by rw [← e]; exact hd p hp))]; rfl
  unfold afterD afterSets
  congr 1
  · funext j; exact key j
  · funext j
    by_cases hj : (j : Int) ∈ done
    · have := key j
      rw [if_pos hj] at this
      simp only [hj, true_and, this]
    · rw [if_neg (fun hx => hj hx.1)]
      have := key j
      rw [if_neg hj] at this
      rw [← this, if_neg (by simp)]
theorem afterD_cons {s : St} {m : List (Int × Int)} {done : List Int} {now j : Nat} {v : Int} (hg : mget (j : Int) m = some v) :
    (afterD s m ((j : Int) :: done) now).W = upd (afterD s m done now).W j v ∧ (v ≠ s.W j → (afterD s m ((j : Int) :: done) now).O = upd (afterD s m done now).O j now) ∧ (v = s.W j → (j : Int) ∉ done → afterD s m ((j : Int) :: done) now = afterD s m done now) := by
  have e : ∀ i : Nat, i ≠ j → ((i : Int) ∈ (j : Int) :: done ↔ (i : Int) ∈ done) := fun i hi => by
    rw [List.mem_cons]; constructor
    · rintro (h | h)
      · omega
      · exact h
    · exact .inr
  refine ⟨?_, fun hv => ?_, fun hv hn => ?_⟩
  · funext i
    unfold afterD upd; simp only
    by_cases hi : i = j
    · subst hi; rw [if_pos rfl, if_pos List.mem_cons_self, hg]; rfl
    · rw [if_neg hi]; simp only [e i hi]
  · funext i
    unfold afterD upd; simp only
    by_cases hi : i = j
    · subst hi; rw [if_pos rfl, if_pos ⟨List.mem_cons_self, by rw [hg]; exact hv⟩]
    · rw [if_neg hi]; simp only [e i hi]
  · unfold afterD
    congr 1
    · funext i
      by_cases hi : i = j
      · subst hi; rw [if_pos List.mem_cons_self, if_neg hn, hg, hv]; rfl
      · simp only [e i hi]
    · funext i
      by_cases hi : i = j
      · subst hi; rw [if_neg (by rw [hg]; simp [hv]), if_neg (fun h => hn h.1)]
      · simp only [e i hi]
theorem EOk.setIn {l : List NodeD} {x : EX} {s s' : St} {ds : List DoneD} (hx : EOk l x s ds) {m : List (Int × Int)} (hw : WMap l s m) {es : Array MapEntry} {clock j : Nat} {v : Int} (hm : MObj KS (Value.int .i64) (mput (j : Int) v m) es clock) (hj : (nd l j).op = 0) (hr : -2147483648 ≤ v ∧ v ≤ 2147483647)
    (hW : s'.W = upd s.W j v) (hL : s'.L = s.L) : EOk l { x with es := es, clock := clock } s' ds := by
  refine ⟨⟨_, hm, fun i hi => ?_⟩, fun i hi h0 h1 => ?_, hx.done, fun i => ?_⟩
  · rw [mget_mput, hW, hL]
    by_cases h : i = j
    · subst h; rw [if_pos rfl, if_pos (.inl hj), upd_same]
    · rw [if_neg (by omega), hw i hi, upd_ne _ _ h]
  · have hij : i ≠ j := fun e => h0 (e ▸ hj)
    rw [hW, upd_ne _ _ hij]; rw [hL] at h1; exact hx.zero i hi h0 h1
  · rw [hW]; unfold upd; split
    · exact hr
    · exact hx.word i
/-! The looks of an instant -/
structure LS where
  x : EX
  s : St
  acc : List DoneD
  cnt : Nat
  f : Nat
  ms : List Nat
structure LOk (l : List NodeD) (want : Nat → Bool) (k : Nat) (pick : List Int) (s0 : St) (x0 : EX) (ds0 : List DoneD) (many0 : Nat) (i : LS) : Prop where
  e : EOk l i.x i.s (ds0 ++ i.acc)
  spec : runI l want k pick l.length s0 = (i.acc ++ (runI l want k pick i.f i.s).1, i.cnt + (runI l want k pick i.f i.s).2.1, (runI l want k pick i.f i.s).2.2)
  fuel : i.f + i.cnt = l.length
  un : unl l i.s k ≤ i.f
  L : ∀ j, j < l.length → i.s.L j ≤ k
  used : pick.length ≠ 0 → i.x.at' = i.s.used
  at' : i.x.at' ≤ many0 + i.cnt
  dn : (ds0 ++ i.acc).length ≤ many0 + i.cnt
  av : i.x.av = x0.av
  wv : i.x.wv = x0.wv
theorem LOk.step {l : List NodeD} {want : Nat → Bool} {k : Nat} {pick : List Int} {s0 : St} {x0 : EX} {ds0 : List DoneD} {many0 : Nat} {i : LS} (h : LOk l want k pick s0 x0 ds0 many0 i) (hr : (readyS l want i.s k).length ≠ 0) {j : Nat} (hj : nextS pick i.s (readyS l want i.s k) = j)
    {es : Array MapEntry} {clock : Nat} {da : Option Addr} {dc : Nat} {dg : Seg} {x2 : EX} (hx2 : x2 = { at' := if pick.length = 0 then i.x.at' else i.x.at' + 1, es := es, clock := clock, da := da, dc := dc, dg := dg, av := i.x.av, wv := i.x.wv })
    (he : EOk l x2 (lookS l k i.s j) (ds0 ++ i.acc ++ doneS l k i.s j)) (mk : Nat) :
    LOk l want k pick s0 x0 ds0 many0 ⟨x2, lookS l k i.s j, i.acc ++ doneS l k i.s j, i.cnt + 1, i.f - 1, mk :: i.ms⟩ := by
  have hu := ready_unl hr
  have hun := h.un
  have hfu := h.fuel
  have hdn := h.dn
  have hat := h.at'
  have hd1 := doneS_len l k i.s j
  have hjm : j ∈ readyS l want i.s k := hj ▸ nextS_mem hr
  obtain ⟨hjl, hjr⟩ := ready_mem'.1 hjm
  have hjL := (rdy_iff.1 hjr).2.1
  have hul := unl_look (now := k) hjl hjL
  obtain ⟨f', hf'⟩ : ∃ f', i.f = f' + 1 := ⟨i.f - 1, by omega⟩
  have hs := h.spec
  rw [hf', runI_go hr, hj] at hs
  refine ⟨by rw [← List.append_assoc]; exact he, ?_, by simp only; omega, by simp only; omega, fun q hq => ?_, fun hp => ?_, ?_, ?_, ?_, ?_⟩
  · simp only
    rw [hf', Nat.add_sub_cancel, hs, List.append_assoc]
    simp only [Prod.mk.injEq, true_and, and_true]
    omega
  · simp only; rw [lookS_L]; unfold upd; split
    · omega
    · exact h.L q hq
  · simp only; rw [hx2, lookS_used, ← h.used hp]; simp only [if_neg hp]
  · simp only; rw [hx2]; simp only; split <;> omega
  · simp only [List.length_append] at hdn ⊢; omega
  · simp only; rw [hx2]; exact h.av
  · simp only; rw [hx2]; exact h.wv
/-! The instants -/
structure RS where
  k : Nat
  x : EX
  s : St
  ds : List DoneD
  many : Nat
  ao : List (Value × List Int × Seg)
  wo : List (Value × List Int × Seg)
  ag : Seg
  wg : Seg
  ins : Heap
  ms : List Nat
  Ws : List (Nat → Int)
structure ROk (l : List NodeD) (pick : List Int) (all : List InstD) (r : RS) : Prop where
  k : r.k ≤ all.length
  e : EOk l r.x r.s r.ds
  a : OLs 24 r.x.av r.ao r.ag
  w : OLs 24 r.x.wv r.wo r.wg
  ia : ∀ t ∈ r.ao, t.2.2 ∈ r.ins
  iw : ∀ t ∈ r.wo, t.2.2 ∈ r.ins
  L : ∀ i, i < l.length → r.s.L i < r.k
  used : pick.length ≠ 0 → r.x.at' = r.s.used
  at' : r.x.at' ≤ r.many
  many : r.many ≤ 40 * r.k
  dn : r.ds.length ≤ r.many
  al : r.ao.length = r.k
  wl : r.wo.length = r.k
  spec : toldS l all pick = (r.ds ++ (allS l pick (all.drop r.k) r.k r.s).1, r.many + (allS l pick (all.drop r.k) r.k r.s).2.1, r.Ws ++ (allS l pick (all.drop r.k) r.k r.s).2.2)
  ws : r.Ws.length = r.k
  asked : r.ao.map (·.2.1) = askedOf (all.take r.k) r.Ws
  eager : r.wo.map (·.2.1) = r.Ws.map (eagerOf l)
theorem allS_drop {l : List NodeD} {pick : List Int} {all : List InstD} {k : Nat} {s : St} (hk : k < all.length) :
    allS l pick (all.drop k) k s = ((instS l all[k] k pick s).1 ++ (allS l pick (all.drop (k + 1)) (k + 1) (instS l all[k] k pick s).2.2).1, (instS l all[k] k pick s).2.1 + (allS l pick (all.drop (k + 1)) (k + 1) (instS l all[k] k pick s).2.2).2.1, (instS l all[k] k pick s).2.2.W :: (allS l pick (all.drop (k + 1)) (k + 1) (instS l all[k] k pick s).2.2).2.2) := by
  rw [drop_step hk, allS]
theorem askedOf_snoc {all : List InstD} {ws : List (Nat → Int)} {k : Nat} (hk : k < all.length) (hw : ws.length = k) (W : Nat → Int) : askedOf (all.take (k + 1)) (ws ++ [W]) = askedOf (all.take k) ws ++ [all[k].asks.map fun a => W a.toNat] := by
  unfold askedOf
  rw [List.take_succ_eq_append_getElem hk, List.zipWith_append (by rw [List.length_take, hw]; omega)]
  rfl
theorem OLs.snoc {v : Value} {outs : List (Value × List Int × Seg)} {og og' : Seg} (h : OLs 24 v outs og) {a : Option Addr} {cap : Nat} {u : Value} {xs : List Int} {sg : Seg} (ho : OSl 24 1 (.slice a (outs.length + 1) cap) (outs.length + 1) (outs.map (·.1) ++ [u]) og') (hi : OSl 3 1 u xs.length (ints xs) sg) :
    OLs 24 (.slice a (outs.length + 1) cap) (outs ++ [(u, xs, sg)]) og' := by
  refine ⟨?_, fun t ht => ?_⟩
  · have e1 : (outs ++ [(u, xs, sg)]).length = outs.length + 1 := by simp
    have e2 : (outs ++ [(u, xs, sg)]).map (·.1) = outs.map (·.1) ++ [u] := by simp
    rw [e1, e2]; exact ho
  · rcases List.mem_append.1 ht with h1 | h1
    · exact h.i t h1
    · rw [List.mem_singleton.1 h1]; exact hi
end Go.Proofs.YtefkmiomldhmjaaDoor
/- The engine runs. -/
namespace Go.Proofs.YtefkmiomldhmjaaDoor
open Go.Sl
variable {S : Nat → Prop} {w0 : World} {η : Heap}
set_option maxHeartbeats 2000000 in
theorem run_fn {c : EC} {l : List NodeD} {pick : List Int} {ia : Option Addr} {all : List InstD} {ic : Nat} (hg : Kinds S w0) (hn : Nodes S w0 [] c.na l) (hok : Ok l) (hi : Insts S w0 [] ia all) (hp : Row S w0 [] c.sa (ints pick)) (hall : restE l all pick = 0) :
    Rt Tryd.prog 55 [ptr c.gb, .slice ia all.length ic].toArray S w0 ([(c.gb, Obj.cells (engV c l.length pick.length { at' := 0, es := #[], clock := 0, da := none, dc := 0, dg := [], av := .slice none 0 0, wv := .slice none 0 0 } 0 0) 88 (0, 0))] :: [(c.mb, Obj.map #[] 0)] :: iseg c.lb l.length (fun _ => -1) :: iseg c.ob l.length (fun _ => -1) :: η) (fun _ η' => ∃ r : RS, ROk l pick all r ∧ r.k = all.length ∧ η' = engH c l.length pick.length r.x r.s r.ds.length r.many (r.ag :: r.wg :: (r.ins ++ η))) := by
  have hF := open_wide
  refine Rt.ofL (fn := Tryd.f55) Tryd.func55 rfl rfl ?_
  refine T.seq ?_
  refine T.region ?_
  refine TL.box hF rfl rfl (fun b2 => ?_)
  refine TL.nil ?_
  refine TQ.then_n ?_
  refine T.seq ?_
  refine T.seq ?_
  refine T.region ?_
  refine TL.load hF rfl (by first | exact At.own' (i := 0) rfl rfl | exact At.own' (i := 1) rfl rfl | exact At.own' (i := 2) rfl rfl | exact At.own' (i := 3) rfl rfl | exact At.own' (i := 4) rfl rfl | exact At.own' (i := 5) rfl rfl | exact At.own' (i := 6) rfl rfl | exact At.own' (i := 7) rfl rfl | exact At.own' (i := 8) rfl rfl | exact At.own' (i := 9) rfl rfl | exact At.own' (i := 10) rfl rfl | exact At.own' (i := 11) rfl rfl | exact At.own' (i := 12) rfl rfl) rfl ?_
  refine TL.nilCheck hF rfl rfl ?_
  refine TL.fieldAddr hF rfl rfl ?_
  refine TL.load hF rfl (by first | exact At.own' (i := 0) rfl rfl | exact At.own' (i := 1) rfl rfl | exact At.own' (i := 2) rfl rfl | exact At.own' (i := 3) rfl rfl | exact At.own' (i := 4) rfl rfl | exact At.own' (i := 5) rfl rfl | exact At.own' (i := 6) rfl rfl | exact At.own' (i := 7) rfl rfl | exact At.own' (i := 8) rfl rfl | exact At.own' (i := 9) rfl rfl | exact At.own' (i := 10) rfl rfl | exact At.own' (i := 11) rfl rfl | exact At.own' (i := 12) rfl rfl) rfl ?_
  refine TL.len hF rfl rfl ?_
  refine TL.move hF rfl rfl ?_
  refine TL.nil ?_
  refine TQ.then_n ?_
  refine T.block ?_
  have hlen := hok.len
  obtain ⟨hal, hpl, hpk, hinst⟩ := restE_ok hall
  refine T.loop (ι := Nat × List (Int × Int) × Array MapEntry × Nat) (fun i => i.1 ≤ l.length ∧ MObj KS (Value.int .i64) i.2.1 i.2.2.1 i.2.2.2 ∧ ∀ j, j < l.length → mget (j : Int) i.2.1 = if j < i.1 ∧ (nd l j).op = 0 then some (nd l j).n else none) (fun i => [(1, .slice ia all.length ic), (2, ptr b2), (27, .slice c.na l.length c.nc), (28, .int .i64 (l.length : Int)), (29, .int .i64 (i.1 : Int))]) (fun i => [(b2, Obj.cells #[ptr c.gb] 89 (0, 0))] :: [(c.gb, Obj.cells (engV c l.length pick.length { at' := 0, es := i.2.2.1, clock := i.2.2.2, da := none, dc := 0, dg := [], av := .slice none 0 0, wv := .slice none 0 0 } 0 0) 88 (0, 0))] :: [(c.mb, Obj.map i.2.2.1 i.2.2.2)] :: iseg c.lb l.length (fun _ => -1) :: iseg c.ob l.length (fun _ => -1) :: η) (fun i => l.length - i.1) (0, [], #[], 0) ⟨Nat.zero_le _, MObj.nil _ _, fun j _ => by simp [mget]⟩ ⟨rfl, rfl, rfl, rfl, rfl, trivial⟩ rfl ?_
  rintro ⟨k, m, es, clock⟩ ⟨hk, hm, hw⟩
  simp only at hk hm hw
  refine T.seq ?_
  refine T.region ?_
  refine TL.bin hF rfl rfl rfl rfl ?_
  refine TL.nil ?_
  refine TQ.then_n ?_
  refine T.seq ?_
  first | refine T.cond_d rfl (fun ht30 => ?_) (fun ht30 => ?_) | refine T.cond _ rfl (fun ht30 => ?_) (fun ht30 => ?_)
  · refine T.skip ?_
    refine TQ.then_n ?_
    refine T.seq ?_
    refine T.block ?_
    refine T.seq ?_
    refine T.region ?_
    refine TL.move hF rfl rfl ?_
    refine TL.indexAddr hF rfl rfl (hn.ad (i := k) (by omega)) (by omega) (by omega) rfl ?_
    refine TL.loadA hF (l[k]'(by omega)).cells rfl rfl (hn.ro.atA (i := k) (by omega)) rfl ?_
    refine TL.alloc hF rfl (fun b5 => ?_)
    refine TL.assign hF rfl rfl ?_
    refine TL.storeAI hF (l[k]'(by omega)).cells 0 rfl rfl rfl rfl (ncells1 _) (by simp [Value.cells, ncl]) ?_
    refine TL.nil ?_
    refine TQ.then_n ?_
    refine T.seq ?_
    refine T.region ?_
    refine TL.load hF rfl (by first | exact At.own' (i := 0) rfl rfl | exact At.own' (i := 1) rfl rfl | exact At.own' (i := 2) rfl rfl | exact At.own' (i := 3) rfl rfl | exact At.own' (i := 4) rfl rfl | exact At.own' (i := 5) rfl rfl | exact At.own' (i := 6) rfl rfl | exact At.own' (i := 7) rfl rfl | exact At.own' (i := 8) rfl rfl | exact At.own' (i := 9) rfl rfl | exact At.own' (i := 10) rfl rfl | exact At.own' (i := 11) rfl rfl | exact At.own' (i := 12) rfl rfl) rfl ?_
    refine TL.move hF rfl rfl ?_
    refine TL.callV hF (input_fn (n := (k : Int)) ⟨(upc _ (upc _ List.mem_cons_self)), rfl, rfl⟩ hn (by omega)) rfl rfl ?_
    refine TL.nil ?_
    refine TQ.then_n ?_
    first | refine T.cond_d rfl (fun ht36 => ?_) (fun ht36 => ?_) | refine T.cond _ rfl (fun ht36 => ?_) (fun ht36 => ?_)
    · refine T.draw ?_
      refine DR.stepV [_] rfl [(2, _, none)] rfl rfl ⟨⟨rfl, by kernel_rfl⟩, trivial⟩ (fun ext => TL.load hF rfl (by first | exact At.own' (i := 0) rfl rfl | exact At.own' (i := 1) rfl rfl | exact At.own' (i := 2) rfl rfl | exact At.own' (i := 3) rfl rfl | exact At.own' (i := 4) rfl rfl | exact At.own' (i := 5) rfl rfl | exact At.own' (i := 6) rfl rfl | exact At.own' (i := 7) rfl rfl | exact At.own' (i := 8) rfl rfl | exact At.own' (i := 9) rfl rfl | exact At.own' (i := 10) rfl rfl | exact At.own' (i := 11) rfl rfl | exact At.own' (i := 12) rfl rfl) rfl TL.fin) ?_
      refine DR.stepV [_, _] rfl [(37, _, some 0)] rfl rfl ⟨⟨rfl, rfl, rfl⟩, trivial⟩ (fun ext => TL.nilCheck hF rfl rfl TL.fin) ?_
      refine DR.stepV [_, _, _] rfl [(38, _, some 1)] rfl rfl ⟨⟨rfl, rfl, rfl⟩, trivial⟩ (fun ext => TL.fieldAddr hF rfl rfl TL.fin) ?_
      refine DR.stepV [_, _, _, _] rfl [(39, _, some 2)] rfl rfl ⟨⟨rfl, rfl, rfl⟩, trivial⟩ (fun ext => TL.load hF rfl (by first | exact At.own' (i := 0) rfl rfl | exact At.own' (i := 1) rfl rfl | exact At.own' (i := 2) rfl rfl | exact At.own' (i := 3) rfl rfl | exact At.own' (i := 4) rfl rfl | exact At.own' (i := 5) rfl rfl | exact At.own' (i := 6) rfl rfl | exact At.own' (i := 7) rfl rfl | exact At.own' (i := 8) rfl rfl | exact At.own' (i := 9) rfl rfl | exact At.own' (i := 10) rfl rfl | exact At.own' (i := 11) rfl rfl | exact At.own' (i := 12) rfl rfl) rfl TL.fin) ?_
      refine DR.stepV [_, _, _, _, _] rfl [(4, _, none)] rfl rfl ⟨⟨rfl, by kernel_rfl⟩, trivial⟩ (fun ext => TL.move hF rfl rfl TL.fin) ?_
      refine DR.stepV [_, _, _, _, _, _] rfl [(41, _, some 4)] rfl rfl ⟨⟨rfl, rfl, rfl⟩, trivial⟩ (fun ext => TL.build hF rfl (r := KS (k : Int)) (fun w => by kernel_rfl) rfl TL.fin) ?_
      refine DR.stepV [_, _, _, _, _, _, _] rfl [(5, _, none)] rfl rfl ⟨⟨rfl, by kernel_rfl⟩, trivial⟩ (fun ext => TL.fieldAddr hF rfl rfl TL.fin) ?_
      refine DR.stepV [_, _, _, _, _, _, _, _] rfl [(43, _, some 6)] rfl rfl ⟨⟨rfl, rfl, rfl⟩, trivial⟩ (fun ext => TL.load hF rfl (by first | exact At.own' (i := 0) rfl rfl | exact At.own' (i := 1) rfl rfl | exact At.own' (i := 2) rfl rfl | exact At.own' (i := 3) rfl rfl | exact At.own' (i := 4) rfl rfl | exact At.own' (i := 5) rfl rfl | exact At.own' (i := 6) rfl rfl | exact At.own' (i := 7) rfl rfl | exact At.own' (i := 8) rfl rfl | exact At.own' (i := 9) rfl rfl | exact At.own' (i := 10) rfl rfl | exact At.own' (i := 11) rfl rfl | exact At.own' (i := 12) rfl rfl) rfl TL.fin) ?_
      refine DR.done [(44, _), (43, _), (42, _), (41, _), (40, _), (39, _), (38, _), (37, _)] [_] mixed (by kernel_rfl) (by kernel_rfl) (by kernel_rfl) rfl rfl ?_
      refine TL.mapUpdate hF 3 (Value.int .i64) (k : Int) (l[k]'(by omega)).n rfl rfl rfl rfl hm (fun es5 clock5 hm5 => ?_)
      refine TL.nil ?_
      refine TQ.block_n ?_
      refine TQ.then_n ?_
      refine T.region ?_
      refine TL.add hF rfl rfl (by omega) (by omega) rfl ?_
      refine TL.move hF rfl rfl ?_
      refine TL.nil ?_
      refine TQ.pop ?_
      refine TQ.round (k + 1, mput (k : Int) (l[k]'(by omega)).n m, es5, clock5) ⟨by simp only; omega, hm5, fun j hj => ?_⟩ (by simp only; omega) ⟨rfl, rfl, rfl, rfl, rfl, trivial⟩ rfl
      simp only
      rw [mget_mput]
      by_cases h : j = k
      · subst h; rw [if_pos rfl, if_pos ⟨by omega, ht36⟩, nd_eq hj]
      · rw [if_neg (by omega), hw j hj]
        by_cases h2 : j < k
        · simp only [h2, show j < k + 1 by omega]
        · rw [if_neg (fun hx => h2 hx.1), if_neg (fun hx => by omega)]
    · refine T.skip ?_
      refine TQ.block_n ?_
      refine TQ.then_n ?_
      refine T.region ?_
      refine TL.add hF rfl rfl (by omega) (by omega) rfl ?_
      refine TL.move hF rfl rfl ?_
      refine TL.nil ?_
      refine TQ.pop ?_
      refine TQ.round (k + 1, m, es, clock) ⟨by simp only; omega, hm, fun j hj => ?_⟩ (by simp only; omega) ⟨rfl, rfl, rfl, rfl, rfl, trivial⟩ rfl
      simp only
      rw [hw j hj]
      by_cases h : j = k
      · subst h; rw [if_neg (fun hx => by omega), if_neg (fun hx => ht36 hx.2)]
      · by_cases h2 : j < k
        · simp only [h2, show j < k + 1 by omega]
        · rw [if_neg (fun hx => h2 hx.1), if_neg (fun hx => by omega)]
  · refine T.exit ?_
    refine TQ.then_x ?_
    refine TQ.then_x ?_
    refine TQ.block_x ?_
    refine TQ.then_n ?_
    refine T.seq ?_
    refine T.region ?_
    refine TL.makeFunc hF rfl rfl rfl ?_
    refine TL.assign hF rfl rfl ?_
    refine TL.nil ?_
    refine TQ.then_n ?_
    refine T.seq ?_
    refine T.region ?_
    refine TL.move hF rfl rfl ?_
    refine TL.len hF rfl rfl ?_
    refine TL.move hF rfl rfl ?_
    refine TL.nil ?_
    refine TQ.then_n ?_
    refine T.block ?_
    have hst : EOk l { at' := 0, es := es, clock := clock, da := none, dc := 0, dg := [], av := .slice none 0 0, wv := .slice none 0 0 } (startS l) [] := ⟨⟨m, hm, fun j hj => by
      rw [hw j hj]
      have e1 : (startS l).L j = -1 := rfl
      have e2 : (startS l).W j = if (nd l j).op = 0 then (nd l j).n else 0 := rfl
      by_cases h0 : (nd l j).op = 0
      · rw [if_pos ⟨by omega, h0⟩, if_pos (.inl h0), e2, if_pos h0]
      · rw [if_neg (fun hx => h0 hx.2), if_neg (by omega)]⟩, fun j hj h0 _ => by
      have e2 : (startS l).W j = if (nd l j).op = 0 then (nd l j).n else 0 := rfl
      rw [e2, if_neg h0], OSl.nil 53 4, fun j => by
      have e2 : (startS l).W j = if (nd l j).op = 0 then (nd l j).n else 0 := rfl
      rw [e2]
      by_cases hj : j < l.length
      · rw [nd_eq hj]; have := hok.word j hj; split <;> omega
      · have e3 : nd l j = default := by unfold nd; rw [List.getD_eq_getElem?_getD, List.getElem?_eq_none (by omega)]; rfl
        rw [e3]; decide⟩
    refine T.hnil (T.hnil (T.hnil ?_))
    refine T.pick [4, 5, 6, 7, 0, 3, 1, 2] [_, _, _, _, _, _, _, _] rfl rfl rfl ?_
    refine T.loopD (ι := RS) (ROk l pick all) (fun r => [(2, ptr b2), (6, .func (.func 61) #[] #[ptr b2]), (47, .slice ia all.length ic), (48, .int .i64 (all.length : Int)), (49, .int .i64 (r.k : Int))]) (fun r => engH c l.length pick.length r.x r.s r.ds.length r.many ([(b2, Obj.cells #[ptr c.gb] 89 (0, 0))] :: (marksH r.ms ++ (r.ag :: r.wg :: (r.ins ++ η))))) (fun r => marksOf r.ms ++ []) (fun r => all.length - r.k) ⟨0, { at' := 0, es := es, clock := clock, da := none, dc := 0, dg := [], av := .slice none 0 0, wv := .slice none 0 0 }, startS l, [], 0, [], [], [], [], [], [], []⟩ ⟨Nat.zero_le _, hst, ⟨OSl.nil 24 1, by simp⟩, ⟨OSl.nil 24 1, by simp⟩, by simp, by simp, fun j _ => by show (-1 : Int) < ((0 : Nat) : Int); decide, fun _ => rfl, Nat.le_refl _, Nat.le_refl _, Nat.le_refl _, rfl, rfl, by simp [toldS], rfl, rfl, rfl⟩ ⟨rfl, rfl, rfl, rfl, rfl, trivial⟩ rfl rfl ?_
    rintro r hr
    have hrk := hr.k
    have hrm := hr.many
    have hrd := hr.dn
    have hra := hr.at'
    refine T.seq ?_
    refine T.region ?_
    refine TL.bin hF rfl rfl rfl rfl ?_
    refine TL.nil ?_
    refine TQ.then_n ?_
    refine T.seq ?_
    first | refine T.cond_d rfl (fun ht50 => ?_) (fun ht50 => ?_) | refine T.cond _ rfl (fun ht50 => ?_) (fun ht50 => ?_)
    · refine T.skip ?_
      refine TQ.then_n ?_
      refine T.seq ?_
      refine T.block ?_
      refine T.seq ?_
      refine T.region ?_
      refine TL.move hF rfl rfl ?_
      refine TL.indexAddr hF rfl rfl (hi.ad (i := r.k) (by omega)) (by omega) (by omega) rfl ?_
      refine TL.loadA hF (all[r.k]'(by omega)).cells rfl rfl (hi.ro.atA (i := r.k) (by omega)) rfl ?_
      refine TL.alloc hF rfl (fun b8 => ?_)
      refine TL.assign hF rfl rfl ?_
      refine TL.storeAI hF (all[r.k]'(by omega)).cells 0 rfl rfl rfl rfl (icells1 _) (by simp [Value.cells, icl]) ?_
      refine TL.nil ?_
      refine TQ.then_n ?_
      refine T.seq ?_
      refine T.region ?_
      refine TL.makeMap hF rfl (fun b54 => ?_)
      refine TL.assign hF rfl rfl ?_
      refine TL.nil ?_
      refine TQ.then_n ?_
      refine T.seq ?_
      refine T.seq ?_
      refine T.region ?_
      refine TL.fieldAddr hF rfl rfl ?_
      refine TL.load hF rfl (by first | exact At.own' (i := 0) rfl rfl | exact At.own' (i := 1) rfl rfl | exact At.own' (i := 2) rfl rfl | exact At.own' (i := 3) rfl rfl | exact At.own' (i := 4) rfl rfl | exact At.own' (i := 5) rfl rfl | exact At.own' (i := 6) rfl rfl | exact At.own' (i := 7) rfl rfl | exact At.own' (i := 8) rfl rfl | exact At.own' (i := 9) rfl rfl | exact At.own' (i := 10) rfl rfl | exact At.own' (i := 11) rfl rfl | exact At.own' (i := 12) rfl rfl) rfl ?_
      refine TL.len hF rfl rfl ?_
      refine TL.move hF rfl rfl ?_
      refine TL.nil ?_
      refine TQ.then_n ?_
      refine T.block ?_
      have hkl : r.k < all.length := by omega
      have hio := instE_ok (hinst r.k hkl)
      have hsr := hi.srow hkl
      refine T.loop (ι := Nat × List (Int × Int) × Array MapEntry × Nat) (fun i => i.1 ≤ (all[r.k]'(by omega)).sets.length ∧ MObj (Value.int .i64) (Value.int .i64) i.2.1 i.2.2.1 i.2.2.2 ∧ SetIs l ((all[r.k]'(by omega)).sets.take i.1) i.2.1) (fun i => [(2, ptr b2), (6, .func (.func 61) #[] #[ptr b2]), (47, .slice ia all.length ic), (48, .int .i64 (all.length : Int)), (49, .int .i64 (r.k : Int)), (7, .int .i64 (r.k : Int)), (8, ptr b8), (9, .map (some b54)), (56, .slice (all[r.k]'(by omega)).sa (all[r.k]'(by omega)).sets.length (all[r.k]'(by omega)).sc), (57, .int .i64 ((all[r.k]'(by omega)).sets.length : Int)), (58, .int .i64 (i.1 : Int))]) (fun i => [(b54, Obj.map i.2.2.1 i.2.2.2)] :: [(b8, Obj.cells (all[r.k]'(by omega)).cells.toArray 50 (0, 0))] :: engH c l.length pick.length r.x r.s r.ds.length r.many ([(b2, Obj.cells #[ptr c.gb] 89 (0, 0))] :: (marksH r.ms ++ (r.ag :: r.wg :: (r.ins ++ η))))) (fun i => (all[r.k]'(by omega)).sets.length - i.1) (0, [], #[], 0) ⟨Nat.zero_le _, MObj.nil _ _, by simpa using SetIs.nil l⟩ ⟨rfl, rfl, rfl, rfl, rfl, rfl, rfl, rfl, rfl, rfl, rfl, trivial⟩ rfl ?_
      rintro ⟨j, m2, es2, clock2⟩ ⟨hj, hm2, hsi⟩
      simp only at hj hm2 hsi
      refine T.seq ?_
      refine T.region ?_
      refine TL.bin hF rfl rfl rfl rfl ?_
      refine TL.nil ?_
      refine TQ.then_n ?_
      refine T.seq ?_
      first | refine T.cond_d rfl (fun ht59 => ?_) (fun ht59 => ?_) | refine T.cond _ rfl (fun ht59 => ?_) (fun ht59 => ?_)
      · refine T.skip ?_
        refine TQ.then_n ?_
        refine T.seq ?_
        refine T.block ?_
        refine T.seq ?_
        refine T.region ?_
        refine TL.indexAddr hF rfl rfl (hsr.tad scl (by decide) (i := j) (by omega)) (by omega) (by omega) rfl ?_
        refine TL.loadA hF ((all[r.k]'(by omega)).sets[j]'(by omega)).cells rfl rfl (hsr.ro.tabA scl (i := j) (by omega)) rfl ?_
        refine TL.alloc hF rfl (fun b11 => ?_)
        refine TL.storeAI hF ((all[r.k]'(by omega)).sets[j]'(by omega)).cells 0 rfl rfl rfl rfl (scells1 _) (by simp [Value.cells, scl]) ?_
        refine TL.nil ?_
        refine TQ.then_n ?_
        refine T.region ?_
        refine TL.move hF rfl rfl ?_
        refine TL.fieldAddr hF rfl rfl ?_
        refine TL.load hF rfl (by first | exact At.own' (i := 0) rfl rfl | exact At.own' (i := 1) rfl rfl | exact At.own' (i := 2) rfl rfl | exact At.own' (i := 3) rfl rfl | exact At.own' (i := 4) rfl rfl | exact At.own' (i := 5) rfl rfl | exact At.own' (i := 6) rfl rfl | exact At.own' (i := 7) rfl rfl | exact At.own' (i := 8) rfl rfl | exact At.own' (i := 9) rfl rfl | exact At.own' (i := 10) rfl rfl | exact At.own' (i := 11) rfl rfl | exact At.own' (i := 12) rfl rfl) rfl ?_
        refine TL.fieldAddr hF rfl rfl ?_
        refine TL.load hF rfl (by first | exact At.own' (i := 0) rfl rfl | exact At.own' (i := 1) rfl rfl | exact At.own' (i := 2) rfl rfl | exact At.own' (i := 3) rfl rfl | exact At.own' (i := 4) rfl rfl | exact At.own' (i := 5) rfl rfl | exact At.own' (i := 6) rfl rfl | exact At.own' (i := 7) rfl rfl | exact At.own' (i := 8) rfl rfl | exact At.own' (i := 9) rfl rfl | exact At.own' (i := 10) rfl rfl | exact At.own' (i := 11) rfl rfl | exact At.own' (i := 12) rfl rfl) rfl ?_
        refine TL.mapUpdate hF 1 (Value.int .i64) ((all[r.k]'(by omega)).sets[j]'(by omega)).node ((all[r.k]'(by omega)).sets[j]'(by omega)).word rfl rfl rfl rfl hm2 (fun es15 clock15 hm15 => ?_)
        refine TL.nil ?_
        refine TQ.block_n ?_
        refine TQ.then_n ?_
        refine T.region ?_
        refine TL.add hF rfl rfl (by omega) (by omega) rfl ?_
        refine TL.move hF rfl rfl ?_
        refine TL.nil ?_
        refine TQ.pop ?_
        exact TQ.round (j + 1, mput ((all[r.k]'(by omega)).sets[j]'(by omega)).node ((all[r.k]'(by omega)).sets[j]'(by omega)).word m2, es15, clock15) ⟨by simp only; omega, hm15, hsi.put (by omega) hio.2.2.1⟩ (by simp only; omega) ⟨rfl, rfl, rfl, rfl, rfl, rfl, rfl, rfl, rfl, rfl, rfl, trivial⟩ rfl
      · refine T.exit ?_
        refine TQ.then_x ?_
        refine TQ.then_x ?_
        refine TQ.block_x ?_
        refine TQ.then_n ?_
        refine T.seq ?_
        refine T.seq ?_
        refine T.region ?_
        refine TL.move hF rfl rfl ?_
        refine TL.range hF rfl List.mem_cons_self rfl (fun b69 => ?_)
        refine TL.nil ?_
        refine TQ.then_n ?_
        refine T.block ?_
        rw [List.take_of_length_le (by omega)] at hsi
        refine T.loop (ι := Array Nat × List Int × Array MapEntry × Nat) (fun i => ItOk m2 es2 i.1 i.2.1 ∧ i.2.1.Nodup ∧ (∀ z ∈ i.2.1, z ∈ m2.map (·.1)) ∧ EOk l { r.x with es := i.2.2.1, clock := i.2.2.2 } (afterD r.s m2 i.2.1 r.k) r.ds) (fun i => [(2, ptr b2), (6, .func (.func 61) #[] #[ptr b2]), (47, .slice ia all.length ic), (48, .int .i64 (all.length : Int)), (49, .int .i64 (r.k : Int)), (7, .int .i64 (r.k : Int)), (8, ptr b8), (69, ptr b69)]) (fun i => [(b69, Obj.mapIter (some b54) clock2 i.1 clock2)] :: [(b54, Obj.map es2 clock2)] :: [(b8, Obj.cells (all[r.k]'(by omega)).cells.toArray 50 (0, 0))] :: engH c l.length pick.length { r.x with es := i.2.2.1, clock := i.2.2.2 } (afterD r.s m2 i.2.1 r.k) r.ds.length r.many ([(b2, Obj.cells #[ptr c.gb] 89 (0, 0))] :: (marksH r.ms ++ (r.ag :: r.wg :: (r.ins ++ η))))) (fun i => m2.length - i.2.1.length) (#[], [], r.x.es, r.x.clock) ⟨ItOk.start _ _, List.nodup_nil, by simp, by rw [afterD_nil]; exact hr.e⟩ ⟨rfl, rfl, rfl, rfl, rfl, rfl, rfl, rfl, trivial⟩ (by rw [afterD_nil]) ?_
        rintro ⟨seen, done, es3, clock3⟩ ⟨hit, hnd, hsub, hE⟩
        simp only at hit hnd hsub hE
        refine T.seq ?_
        refine T.region ?_
        refine TL.next hF 0 rfl rfl (upc _ List.mem_cons_self) hm2 hit rfl (fun hover => ?_) (fun p70 seen70 hp70 hnd70 hit70 hent70 => ?_)
        · refine TL.extract hF rfl rfl rfl ?_
          refine TL.nil ?_
          refine TQ.then_n ?_
          refine T.seq ?_
          refine T.cond_f rfl rfl ?_
          refine T.exit ?_
          refine TQ.then_x ?_
          refine TQ.then_x ?_
          refine TQ.block_x ?_
          refine TQ.then_n ?_
          refine T.seq ?_
          refine T.region ?_
          rw [afterD_end hsi hover] at hE ⊢
          refine TL.pick' [3, 4, 5, 6, 7, 2, 8] [_, _, _, _, _, _, _, _, _] rfl rfl rfl ?_
          refine TL.load hF rfl (At.own' (i := 6) rfl rfl) rfl ?_
          refine TL.fieldAddr hF rfl rfl ?_
          refine TL.load hF rfl (by first | exact At.own' (i := 0) rfl rfl | exact At.own' (i := 1) rfl rfl | exact At.own' (i := 2) rfl rfl | exact At.own' (i := 3) rfl rfl | exact At.own' (i := 4) rfl rfl | exact At.own' (i := 5) rfl rfl | exact At.own' (i := 6) rfl rfl | exact At.own' (i := 7) rfl rfl | exact At.own' (i := 8) rfl rfl | exact At.own' (i := 9) rfl rfl | exact At.own' (i := 10) rfl rfl | exact At.own' (i := 11) rfl rfl | exact At.own' (i := 12) rfl rfl) rfl ?_
          refine TL.call hF (wanted_fn (pick := pick) ⟨List.mem_cons_self, rfl, rfl⟩ hn hok (hi.arow hkl) (by omega)) rfl rfl ?_
          rintro _ _ ⟨bw, rfl, rfl⟩
          refine TL.assign hF rfl rfl ?_
          refine TL.nil ?_
          refine TQ.then_n ?_
          refine T.seq ?_
          refine T.region ?_
          refine TL.load hF rfl (by first | exact At.own' (i := 0) rfl rfl | exact At.own' (i := 1) rfl rfl | exact At.own' (i := 2) rfl rfl | exact At.own' (i := 3) rfl rfl | exact At.own' (i := 4) rfl rfl | exact At.own' (i := 5) rfl rfl | exact At.own' (i := 6) rfl rfl | exact At.own' (i := 7) rfl rfl | exact At.own' (i := 8) rfl rfl | exact At.own' (i := 9) rfl rfl | exact At.own' (i := 10) rfl rfl | exact At.own' (i := 11) rfl rfl | exact At.own' (i := 12) rfl rfl) rfl ?_
          refine TL.makeFunc hF rfl rfl rfl ?_
          refine TL.assign hF rfl rfl ?_
          refine TL.nil ?_
          refine TQ.then_n ?_
          refine T.seq ?_
          refine T.block ?_
          refine T.pick [1, 2, 3, 4, 5, 0, 6, 7] [_, _, _, _, _, _, _, _] rfl rfl rfl ?_
          refine T.loopD (ι := LS) (LOk l (wantS l (all[r.k]'(by omega)).asks) r.k pick (afterSets (all[r.k]'(by omega)) r.k r.s) { r.x with es := es3, clock := clock3 } r.ds r.many) (fun i => [(2, ptr b2), (6, .func (.func 61) #[] #[ptr b2]), (47, .slice ia all.length ic), (48, .int .i64 (all.length : Int)), (49, .int .i64 (r.k : Int)), (7, .int .i64 (r.k : Int)), (8, ptr b8), (14, .slice (some ⟨bw, 0, none⟩) l.length l.length), (15, .func (.func 63) #[ptr c.gb] #[])]) (fun i => engH c l.length pick.length i.x i.s (r.ds ++ i.acc).length (r.many + i.cnt) (bseg bw l.length (wantS l (all[r.k]'(by omega)).asks) :: [(b8, Obj.cells (all[r.k]'(by omega)).cells.toArray 50 (0, 0))] :: [(b2, Obj.cells #[ptr c.gb] 89 (0, 0))] :: (marksH i.ms ++ (r.ag :: r.wg :: (r.ins ++ η))))) (fun i => marksOf i.ms ++ []) (fun i => i.f) ⟨{ r.x with es := es3, clock := clock3 }, afterSets (all[r.k]'(by omega)) r.k r.s, [], 0, l.length, r.ms⟩ ⟨by simpa using hE, by simp, by simp, unl_le _ _ _, fun q hq => by have := hr.L q hq; show r.s.L q ≤ r.k; omega, fun h => hr.used h, hra, by simpa using hrd, rfl, rfl⟩ ⟨rfl, rfl, rfl, rfl, rfl, rfl, rfl, rfl, rfl, trivial⟩ (by simp only [List.append_nil]; rfl) rfl ?_
          rintro i hL4
          have hat4 := hL4.at'
          have hdn4 := hL4.dn
          have hfu4 := hL4.fuel
          refine T.block ?_
          refine T.seq ?_
          refine T.region ?_
          refine TL.alloc hF rfl (fun b16 => ?_)
          refine TL.nil ?_
          refine TQ.then_n ?_
          refine T.seq ?_
          refine T.seq ?_
          refine T.region ?_
          refine TL.load hF rfl (by first | exact At.own' (i := 0) rfl rfl | exact At.own' (i := 1) rfl rfl | exact At.own' (i := 2) rfl rfl | exact At.own' (i := 3) rfl rfl | exact At.own' (i := 4) rfl rfl | exact At.own' (i := 5) rfl rfl | exact At.own' (i := 6) rfl rfl | exact At.own' (i := 7) rfl rfl | exact At.own' (i := 8) rfl rfl | exact At.own' (i := 9) rfl rfl | exact At.own' (i := 10) rfl rfl | exact At.own' (i := 11) rfl rfl | exact At.own' (i := 12) rfl rfl) rfl ?_
          refine TL.move hF rfl rfl ?_
          refine TL.move hF rfl rfl ?_
          refine TL.call hF ready_fn rfl rfl ?_
          rintro _ _ ⟨c3, c4, c5, rfl, rfl⟩
          refine TL.nil ?_
          refine TQ.then_n ?_
          refine T.block ?_
          refine T.hnil ?_
          refine T.rangeFunc (fst := []) (cap := [ptr c4, ptr c3, ptr c5]) rfl (ready_iter (S := S) (w0 := w0) (b3 := c3) (b4 := c4) (b5 := c5) (wb := bw) (now := r.k) (c := c) (pick := pick) (x := i.x) (s := i.s) (dn := (r.ds ++ i.acc).length) (many := r.many + i.cnt) (want := (wantS l (all[r.k]'(by omega)).asks)) hn hok hL4.L) (by
              intro e he; obtain ⟨y, _, rfl⟩ := List.mem_map.1 he; rfl) (by simp) (fun q η1 => ∃ a cp seg, η1 = seg :: [(c5, Obj.cells #[.int .i64 (r.k : Int)] 3 (0, 0))] :: [(c4, Obj.cells #[.slice (some ⟨bw, 0, none⟩) l.length l.length] 62 (0, 0))] :: [(c3, Obj.cells #[ptr c.gb] 89 (0, 0))] :: [(b16, Obj.cells #[.slice a q cp] 24 (0, 0))] :: engH c l.length pick.length i.x i.s (r.ds ++ i.acc).length (r.many + i.cnt) (bseg bw l.length (wantS l (all[r.k]'(by omega)).asks) :: [(b8, Obj.cells (all[r.k]'(by omega)).cells.toArray 50 (0, 0))] :: [(b2, Obj.cells #[ptr c.gb] 89 (0, 0))] :: (marksH i.ms ++ (r.ag :: r.wg :: (r.ins ++ η)))) ∧ OSl 3 1 (.slice a q cp) q (nats ((readyS l (wantS l (all[r.k]'(by omega)).asks) i.s r.k).take q)) seg) (fun _ _ => False) ⟨none, 0, [], rfl, OSl.nil 3 1⟩ ?_ ?_ ?_ ?_
          · rintro q _ tl ⟨a, cp, seg, rfl, _⟩
            exact ⟨(upc _ (upc _ (upc _ List.mem_cons_self))), (upc _ (upc _ List.mem_cons_self)), (upc _ List.mem_cons_self), (upc _ (upc _ (upc _ (upc _ (upc _ List.mem_cons_self))))), (upc _ (upc _ (upc _ (upc _ (upc _ (upc _ (upc _ (upc _ (upc _ (upc _ List.mem_cons_self)))))))))), (upc _ (upc _ (upc _ (upc _ (upc _ (upc _ (upc _ List.mem_cons_self)))))))⟩
          · rintro yl tl tl' q e _ hie ⟨a, cp, seg, rfl, ho⟩
            have hF := open_round yl
            have hil : q < (readyS l (wantS l (all[r.k]'(by omega)).asks) i.s r.k).length := by have := (List.getElem?_eq_some_iff.1 hie).1; rw [List.length_map] at this; exact this
            have hee : e = [.int .i64 (((readyS l (wantS l (all[r.k]'(by omega)).asks) i.s r.k)[q] : Nat) : Int)] := by
              have := (List.getElem?_eq_some_iff.1 hie).2; rw [← this, List.getElem_map]; rfl
            subst hee
            have hrl : (readyS l (wantS l (all[r.k]'(by omega)).asks) i.s r.k).length ≤ l.length := by have := List.length_filter_le (rdyB l (wantS l (all[r.k]'(by omega)).asks) i.s r.k) (List.range l.length); rw [List.length_range] at this; exact this
            refine T.region ?_
            refine TL.assign hF rfl rfl ?_
            refine TL.nil ?_
            refine TQ.swapT _ rfl ?_
            refine T.block ?_
            refine T.region ?_
            refine TL.load hF rfl (own_mem (cs := #[.slice a q cp]) (e := 24) (fz := (0, 0)) (upc _ (upc _ (upc _ (upc _ List.mem_cons_self)))) rfl) rfl ?_
            refine TL.move hF rfl rfl ?_
            refine TL.buildSlice hF rfl (cs := #[.int .i64 (((readyS l (wantS l (all[r.k]'(by omega)).asks) i.s r.k)[q] : Nat) : Int)]) (e := 3) (fun w => by kernel_rfl) rfl (fun b109 => ?_)
            refine TL.append hF 1 rfl rfl rfl ho (row_own (cs := [.int .i64 (((readyS l (wantS l (all[r.k]'(by omega)).asks) i.s r.k)[q] : Nat) : Int)]) (e := 3) List.mem_cons_self).src rfl rfl (by simp [Value.oneCell']) (by omega) (by omega) rfl (fun a' cap' seg' ho' => ?_)
            refine TL.storeI hF 5 rfl rfl rfl rfl (by simp) ?_
            refine TL.nil ?_
            refine TQ.block_n ?_
            refine TQ.pop ?_
            exact TQ.rq_n (seg' :: [(c5, Obj.cells #[.int .i64 (r.k : Int)] 3 (0, 0))] :: [(c4, Obj.cells #[.slice (some ⟨bw, 0, none⟩) l.length l.length] 62 (0, 0))] :: [(c3, Obj.cells #[ptr c.gb] 89 (0, 0))] :: [(b16, Obj.cells #[.slice a' (q + 1) cap'] 24 (0, 0))] :: engH c l.length pick.length i.x i.s (r.ds ++ i.acc).length (r.many + i.cnt) (bseg bw l.length (wantS l (all[r.k]'(by omega)).asks) :: [(b8, Obj.cells (all[r.k]'(by omega)).cells.toArray 50 (0, 0))] :: [(b2, Obj.cells #[ptr c.gb] 89 (0, 0))] :: (marksH i.ms ++ (r.ag :: r.wg :: (r.ins ++ η))))) rfl ⟨a', cap', seg', rfl, by
              have e : nats ((readyS l (wantS l (all[r.k]'(by omega)).asks) i.s r.k).take (q + 1)) = nats ((readyS l (wantS l (all[r.k]'(by omega)).asks) i.s r.k).take q) ++ [.int .i64 (((readyS l (wantS l (all[r.k]'(by omega)).asks) i.s r.k)[q] : Nat) : Int)] := by rw [List.take_succ_eq_append_getElem hil, nats, List.map_append]; rfl
              rw [e]; exact ho'⟩
          · rintro mk _ ⟨a, cp, seg, rfl, ho⟩
            rw [List.length_map] at ho ⊢
            have ho0 : OSl 3 1 (.slice a (readyS l (wantS l (all[r.k]'(by omega)).asks) i.s r.k).length cp) (readyS l (wantS l (all[r.k]'(by omega)).asks) i.s r.k).length (nats (readyS l (wantS l (all[r.k]'(by omega)).asks) i.s r.k)) seg := by
              have e : (readyS l (wantS l (all[r.k]'(by omega)).asks) i.s r.k).take (readyS l (wantS l (all[r.k]'(by omega)).asks) i.s r.k).length = (readyS l (wantS l (all[r.k]'(by omega)).asks) i.s r.k) := List.take_length
              have ho1 : OSl 3 1 (.slice a (readyS l (wantS l (all[r.k]'(by omega)).asks) i.s r.k).length cp) (readyS l (wantS l (all[r.k]'(by omega)).asks) i.s r.k).length (nats ((readyS l (wantS l (all[r.k]'(by omega)).asks) i.s r.k).take (readyS l (wantS l (all[r.k]'(by omega)).asks) i.s r.k).length)) seg := ho
              rw [e] at ho1; exact ho1
            show TQ S w0 _ _ _ _ ([(mk, .deferred (some []))] :: seg :: [(c5, Obj.cells #[.int .i64 (r.k : Int)] 3 (0, 0))] :: [(c4, Obj.cells #[.slice (some ⟨bw, 0, none⟩) l.length l.length] 62 (0, 0))] :: [(c3, Obj.cells #[ptr c.gb] 89 (0, 0))] :: [(b16, Obj.cells #[.slice a (readyS l (wantS l (all[r.k]'(by omega)).asks) i.s r.k).length cp] 24 (0, 0))] :: engH c l.length pick.length i.x i.s (r.ds ++ i.acc).length (r.many + i.cnt) (bseg bw l.length (wantS l (all[r.k]'(by omega)).asks) :: [(b8, Obj.cells (all[r.k]'(by omega)).cells.toArray 50 (0, 0))] :: [(b2, Obj.cells #[ptr c.gb] 89 (0, 0))] :: (marksH i.ms ++ (r.ag :: r.wg :: (r.ins ++ η)))))
            refine TQ.block_n ?_
            refine TQ.then_n ?_
            refine T.seq ?_
            refine T.seq ?_
            refine T.region ?_
            refine TL.load hF rfl (At.own' (i := 5) rfl rfl) rfl ?_
            refine TL.len hF rfl rfl ?_
            refine TL.bin hF rfl rfl rfl rfl ?_
            refine TL.nil ?_
            refine TQ.then_n ?_
            first | refine T.cond_d rfl (fun ht113 => ?_) (fun ht113 => ?_) | refine T.cond _ rfl (fun ht113 => ?_) (fun ht113 => ?_)
            · refine T.exit ?_
              refine TQ.then_x ?_
              refine TQ.block_o rfl ?_
              refine TQ.then_x ?_
              refine TQ.block_x ?_
              refine TQ.then_n ?_
              refine T.seq ?_
              refine T.region ?_
              have hr0 : (readyS l (wantS l (all[r.k]'(by omega)).asks) i.s r.k).length = 0 := by
                have h : (((readyS l (wantS l (all[r.k]'(by omega)).asks) i.s r.k).length : Nat) : Int) = 0 := ht113
                omega
              have hsp := hL4.spec
              rw [runI_stop hr0] at hsp
              have hins : instS l (all[r.k]'(by omega)) r.k pick r.s = (i.acc, i.cnt, i.s) := by unfold instS; rw [hsp]; simp
              refine TL.pick' [6, 7, 8, 9, 10, 12, 13, 0] [_, _, _, _, _, _, _, _, _, _, _, _, _, _] rfl rfl rfl ?_
              refine TL.assign hF rfl rfl ?_
              refine TL.assign hF rfl rfl ?_
              refine TL.nil ?_
              refine TQ.then_n ?_
              refine T.seq ?_
              refine T.seq ?_
              refine T.region ?_
              refine TL.fieldAddr hF rfl rfl ?_
              refine TL.load hF rfl (by first | exact At.own' (i := 0) rfl rfl | exact At.own' (i := 1) rfl rfl | exact At.own' (i := 2) rfl rfl | exact At.own' (i := 3) rfl rfl | exact At.own' (i := 4) rfl rfl | exact At.own' (i := 5) rfl rfl | exact At.own' (i := 6) rfl rfl | exact At.own' (i := 7) rfl rfl | exact At.own' (i := 8) rfl rfl | exact At.own' (i := 9) rfl rfl | exact At.own' (i := 10) rfl rfl | exact At.own' (i := 11) rfl rfl | exact At.own' (i := 12) rfl rfl) rfl ?_
              refine TL.len hF rfl rfl ?_
              refine TL.move hF rfl rfl ?_
              refine TL.nil ?_
              refine TQ.then_n ?_
              refine T.block ?_
              have harow := hi.arow hkl
              have hE6 := hL4.e
              refine T.hnil ?_
              refine T.loop (ι := Nat × Option Addr × Nat × Seg) (fun q => q.1 ≤ (all[r.k]'(by omega)).asks.length ∧ OSl 3 1 (.slice q.2.1 q.1 q.2.2.1) q.1 (ints (((all[r.k]'(by omega)).asks.take q.1).map fun a => i.s.W a.toNat)) q.2.2.2) (fun q => [(2, ptr b2), (6, .func (.func 61) #[] #[ptr b2]), (47, .slice ia all.length ic), (48, .int .i64 (all.length : Int)), (49, .int .i64 (r.k : Int)), (18, .slice q.2.1 q.1 q.2.2.1), (19, .slice none 0 0), (126, .slice (all[r.k]'(by omega)).aa (all[r.k]'(by omega)).asks.length (all[r.k]'(by omega)).ac), (127, .int .i64 ((all[r.k]'(by omega)).asks.length : Int)), (128, .int .i64 (q.1 : Int))]) (fun q => q.2.2.2 :: engH c l.length pick.length i.x i.s (r.ds ++ i.acc).length (r.many + i.cnt) ([(b8, Obj.cells (all[r.k]'(by omega)).cells.toArray 50 (0, 0))] :: [(b2, Obj.cells #[ptr c.gb] 89 (0, 0))] :: (marksH (mk :: i.ms) ++ (r.ag :: r.wg :: (r.ins ++ η))))) (fun q => (all[r.k]'(by omega)).asks.length - q.1) (0, none, 0, []) ⟨Nat.zero_le _, OSl.nil 3 1⟩ ⟨rfl, rfl, rfl, rfl, rfl, rfl, rfl, rfl, rfl, rfl, trivial⟩ rfl ?_
              rintro ⟨q, sa, sc, sg⟩ ⟨hq, hos⟩
              simp only at hq hos
              refine T.seq ?_
              refine T.region ?_
              refine TL.bin hF rfl rfl rfl rfl ?_
              refine TL.nil ?_
              refine TQ.then_n ?_
              refine T.seq ?_
              first | refine T.cond_d rfl (fun ht129 => ?_) (fun ht129 => ?_) | refine T.cond _ rfl (fun ht129 => ?_) (fun ht129 => ?_)
              · refine T.skip ?_
                refine TQ.then_n ?_
                refine T.seq ?_
                refine T.block ?_
                refine T.seq ?_
                refine T.region ?_
                refine TL.indexAddr hF rfl rfl (harow.adi (i := q) (by rw [List.length_map]; omega)) (by omega) (by omega) rfl ?_
                refine TL.load hF rfl (harow.ro.int (i := q) (by omega)) rfl ?_
                refine TL.assign hF rfl rfl ?_
                refine TL.nil ?_
                refine TQ.then_n ?_
                refine T.region ?_
                refine TL.move hF rfl rfl ?_
                refine TL.move hF rfl rfl ?_
                refine TL.move hF rfl rfl ?_
                have hql : q < (all[r.k]'(by omega)).asks.length := by omega
                have hask := asksOk_get hio.2.2.2 (List.getElem_mem hql)
                obtain ⟨an, han⟩ : ∃ an : Nat, (all[r.k]'(by omega)).asks[q] = (an : Int) := ⟨((all[r.k]'(by omega)).asks[q]).toNat, by omega⟩
                rw [han]
                refine TL.callV hF (word_fn (c := c) (l := l) (pl := pick.length) (dn := (r.ds ++ i.acc).length) (many := r.many + i.cnt) hE6 (by omega) (upc _ (upc _ (upc _ (upc _ (upc _ (upc _ (upc _ List.mem_cons_self))))))) (upc _ List.mem_cons_self) (upc _ (upc _ List.mem_cons_self))) rfl rfl ?_
                refine TL.buildSlice hF rfl (cs := #[.int .i64 (i.s.W an)]) (e := 3) (fun w => by kernel_rfl) rfl (fun b136 => ?_)
                refine TL.append hF 1 rfl rfl rfl hos (row_own (cs := [.int .i64 (i.s.W an)]) (e := 3) List.mem_cons_self).src rfl rfl (by simp [Value.oneCell']) (by omega) (by omega) rfl (fun a' cap' seg' ho' => ?_)
                refine TL.assign hF rfl rfl ?_
                refine TL.nil ?_
                refine TQ.block_n ?_
                refine TQ.then_n ?_
                refine T.region ?_
                refine TL.add hF rfl rfl (by omega) (by omega) rfl ?_
                refine TL.move hF rfl rfl ?_
                refine TL.nil ?_
                refine TQ.pop ?_
                refine TQ.round (q + 1, a', cap', seg') ⟨by simp only; omega, ?_⟩ (by simp only; omega) ⟨rfl, rfl, rfl, rfl, rfl, rfl, rfl, rfl, rfl, rfl, trivial⟩ rfl
                have e : ints (((all[r.k]'(by omega)).asks.take (q + 1)).map fun a => i.s.W a.toNat) = ints (((all[r.k]'(by omega)).asks.take q).map fun a => i.s.W a.toNat) ++ [.int .i64 (i.s.W an)] := by rw [List.take_succ_eq_append_getElem hql, List.map_append, ints, List.map_append, List.map_singleton, han, Int.toNat_natCast]; rfl
                simp only
                rw [e]; exact ho'
              · refine T.exit ?_
                refine TQ.then_x ?_
                refine TQ.then_x ?_
                refine TQ.block_x ?_
                refine TQ.then_n ?_
                refine T.seq ?_
                refine T.seq ?_
                refine T.region ?_
                refine TL.load hF rfl (by first | exact At.own' (i := 0) rfl rfl | exact At.own' (i := 1) rfl rfl | exact At.own' (i := 2) rfl rfl | exact At.own' (i := 3) rfl rfl | exact At.own' (i := 4) rfl rfl | exact At.own' (i := 5) rfl rfl | exact At.own' (i := 6) rfl rfl | exact At.own' (i := 7) rfl rfl | exact At.own' (i := 8) rfl rfl | exact At.own' (i := 9) rfl rfl | exact At.own' (i := 10) rfl rfl | exact At.own' (i := 11) rfl rfl | exact At.own' (i := 12) rfl rfl) rfl ?_
                refine TL.nilCheck hF rfl rfl ?_
                refine TL.fieldAddr hF rfl rfl ?_
                refine TL.load hF rfl (by first | exact At.own' (i := 0) rfl rfl | exact At.own' (i := 1) rfl rfl | exact At.own' (i := 2) rfl rfl | exact At.own' (i := 3) rfl rfl | exact At.own' (i := 4) rfl rfl | exact At.own' (i := 5) rfl rfl | exact At.own' (i := 6) rfl rfl | exact At.own' (i := 7) rfl rfl | exact At.own' (i := 8) rfl rfl | exact At.own' (i := 9) rfl rfl | exact At.own' (i := 10) rfl rfl | exact At.own' (i := 11) rfl rfl | exact At.own' (i := 12) rfl rfl) rfl ?_
                refine TL.len hF rfl rfl ?_
                refine TL.move hF rfl rfl ?_
                refine TL.nil ?_
                refine TQ.then_n ?_
                refine T.block ?_
                rw [List.take_of_length_le (by omega)] at hos
                have hql : q = (all[r.k]'(by omega)).asks.length := by omega
                refine T.hnil ?_
                refine T.loop (ι := Nat × Nat × Option Addr × Nat × Seg) (fun p => p.1 ≤ l.length ∧ p.2.1 ≤ p.1 ∧ OSl 3 1 (.slice p.2.2.1 p.2.1 p.2.2.2.1) p.2.1 (ints (((List.range p.1).filter fun j => (nd l j).eager).map i.s.W)) p.2.2.2.2) (fun p => [(2, ptr b2), (6, .func (.func 61) #[] #[ptr b2]), (47, .slice ia all.length ic), (48, .int .i64 (all.length : Int)), (49, .int .i64 (r.k : Int)), (18, .slice sa q sc), (19, .slice p.2.2.1 p.2.1 p.2.2.2.1), (142, .slice c.na l.length c.nc), (143, .int .i64 (l.length : Int)), (144, .int .i64 (p.1 : Int))]) (fun p => p.2.2.2.2 :: sg :: engH c l.length pick.length i.x i.s (r.ds ++ i.acc).length (r.many + i.cnt) ([(b8, Obj.cells (all[r.k]'(by omega)).cells.toArray 50 (0, 0))] :: [(b2, Obj.cells #[ptr c.gb] 89 (0, 0))] :: (marksH (mk :: i.ms) ++ (r.ag :: r.wg :: (r.ins ++ η))))) (fun p => l.length - p.1) (0, 0, none, 0, []) ⟨Nat.zero_le _, Nat.le_refl _, OSl.nil 3 1⟩ ⟨rfl, rfl, rfl, rfl, rfl, rfl, rfl, rfl, rfl, rfl, trivial⟩ rfl ?_
                rintro ⟨p, pl, wa, wc, wsg⟩ ⟨hpn, hpl2, how⟩
                simp only at hpn hpl2 how
                refine T.seq ?_
                refine T.region ?_
                refine TL.bin hF rfl rfl rfl rfl ?_
                refine TL.nil ?_
                refine TQ.then_n ?_
                refine T.seq ?_
                first | refine T.cond_d rfl (fun ht145 => ?_) (fun ht145 => ?_) | refine T.cond _ rfl (fun ht145 => ?_) (fun ht145 => ?_)
                · refine T.skip ?_
                  refine TQ.then_n ?_
                  refine T.seq ?_
                  refine T.block ?_
                  refine T.seq ?_
                  refine T.region ?_
                  refine TL.move hF rfl rfl ?_
                  refine TL.indexAddr hF rfl rfl (hn.ad (i := p) (by omega)) (by omega) (by omega) rfl ?_
                  refine TL.loadA hF (l[p]'(by omega)).cells rfl rfl (hn.ro.atA (i := p) (by omega)) rfl ?_
                  refine TL.alloc hF rfl (fun b23 => ?_)
                  refine TL.assign hF rfl rfl ?_
                  refine TL.storeAI hF (l[p]'(by omega)).cells 0 rfl rfl rfl rfl (ncells1 _) (by simp [Value.cells, ncl]) ?_
                  refine TL.nil ?_
                  refine TQ.then_n ?_
                  refine T.seq ?_
                  refine T.region ?_
                  refine TL.fieldAddr hF rfl rfl ?_
                  refine TL.load hF rfl (by first | exact At.own' (i := 0) rfl rfl | exact At.own' (i := 1) rfl rfl | exact At.own' (i := 2) rfl rfl | exact At.own' (i := 3) rfl rfl | exact At.own' (i := 4) rfl rfl | exact At.own' (i := 5) rfl rfl | exact At.own' (i := 6) rfl rfl | exact At.own' (i := 7) rfl rfl | exact At.own' (i := 8) rfl rfl | exact At.own' (i := 9) rfl rfl | exact At.own' (i := 10) rfl rfl | exact At.own' (i := 11) rfl rfl | exact At.own' (i := 12) rfl rfl) rfl ?_
                  refine TL.nil ?_
                  refine TQ.then_n ?_
                  refine T.cond _ rfl (fun hea => ?_) (fun hea => ?_)
                  · refine T.region ?_
                    refine TL.move hF rfl rfl ?_
                    refine TL.move hF rfl rfl ?_
                    refine TL.move hF rfl rfl ?_
                    refine TL.callV hF (word_fn (c := c) (l := l) (pl := pick.length) (dn := (r.ds ++ i.acc).length) (many := r.many + i.cnt) (j := p) hE6 (by omega) (upc _ (upc _ (upc _ (upc _ (upc _ (upc _ (upc _ (upc _ (upc _ List.mem_cons_self))))))))) (upc _ (upc _ (upc _ List.mem_cons_self))) (upc _ (upc _ (upc _ (upc _ List.mem_cons_self))))) rfl rfl ?_
                    refine TL.buildSlice hF rfl (cs := #[.int .i64 (i.s.W p)]) (e := 3) (fun w => by kernel_rfl) rfl (fun b155 => ?_)
                    refine TL.append hF 2 rfl rfl rfl how (row_own (cs := [.int .i64 (i.s.W p)]) (e := 3) List.mem_cons_self).src rfl rfl (by simp [Value.oneCell']) (by omega) (by omega) rfl (fun a' cap' seg' ho' => ?_)
                    refine TL.assign hF rfl rfl ?_
                    refine TL.nil ?_
                    refine TQ.block_n ?_
                    refine TQ.then_n ?_
                    refine T.region ?_
                    refine TL.add hF rfl rfl (by omega) (by omega) rfl ?_
                    refine TL.move hF rfl rfl ?_
                    refine TL.nil ?_
                    refine TQ.pop (TQ.pop ?_)
                    refine TQ.round (p + 1, pl + 1, a', cap', seg') ⟨by simp only; omega, by simp only; omega, ?_⟩ (by simp only; omega) ⟨rfl, rfl, rfl, rfl, rfl, rfl, rfl, rfl, rfl, rfl, trivial⟩ rfl
                    have e : ints (((List.range (p + 1)).filter fun j => (nd l j).eager).map i.s.W) = ints (((List.range p).filter fun j => (nd l j).eager).map i.s.W) ++ [.int .i64 (i.s.W p)] := by
                      have h1 : (nd l p).eager = true := by rw [nd_eq (by omega)]; exact hea
                      rw [List.range_succ, List.filter_append, List.filter_cons, h1, if_pos rfl, List.filter_nil, List.map_append, ints, List.map_append]; rfl
                    simp only
                    rw [e]; exact ho'
                  · refine T.skip ?_
                    refine TQ.block_n ?_
                    refine TQ.then_n ?_
                    refine T.region ?_
                    refine TL.add hF rfl rfl (by omega) (by omega) rfl ?_
                    refine TL.move hF rfl rfl ?_
                    refine TL.nil ?_
                    refine TQ.pop ?_
                    refine TQ.round (p + 1, pl, wa, wc, wsg) ⟨by simp only; omega, by simp only; omega, ?_⟩ (by simp only; omega) ⟨rfl, rfl, rfl, rfl, rfl, rfl, rfl, rfl, rfl, rfl, trivial⟩ rfl
                    have e : ints (((List.range (p + 1)).filter fun j => (nd l j).eager).map i.s.W) = ints (((List.range p).filter fun j => (nd l j).eager).map i.s.W) := by
                      have h1 : (nd l p).eager = false := by rw [nd_eq (by omega)]; exact hea
                      rw [List.range_succ, List.filter_append, List.filter_cons, h1, if_neg (by simp), List.filter_nil, List.append_nil]
                    simp only
                    rw [e]; exact how
                · refine T.exit ?_
                  refine TQ.then_x ?_
                  refine TQ.then_x ?_
                  refine TQ.block_x ?_
                  refine TQ.then_n ?_
                  have hpl3 : p = l.length := by omega
                  obtain ⟨aa, ac, hav⟩ := hr.a.o.form
                  obtain ⟨wa2, wc2, hwv⟩ := hr.w.o.form
                  have hav4 : i.x.av = .slice aa r.ao.length ac := hL4.av.trans hav
                  have hwv4 : i.x.wv = .slice wa2 r.wo.length wc2 := hL4.wv.trans hwv
                  have hao : OSl 24 1 i.x.av r.ao.length (r.ao.map (·.1)) r.ag := by rw [hL4.av]; exact hr.a.o
                  have hwo : OSl 24 1 i.x.wv r.wo.length (r.wo.map (·.1)) r.wg := by rw [hL4.wv]; exact hr.w.o
                  have hal3 := hr.al
                  have hwl3 := hr.wl
                  refine T.hperm (r.ag :: r.wg :: wsg :: sg :: engH c l.length pick.length i.x i.s (r.ds ++ i.acc).length (r.many + i.cnt) ([(b8, Obj.cells (all[r.k]'(by omega)).cells.toArray 50 (0, 0))] :: [(b2, Obj.cells #[ptr c.gb] 89 (0, 0))] :: (marksH (mk :: i.ms) ++ (r.ins ++ η)))) (mid [r.ag, r.wg] (wsg :: sg :: engH c l.length pick.length i.x i.s (r.ds ++ i.acc).length (r.many + i.cnt) ([(b8, Obj.cells (all[r.k]'(by omega)).cells.toArray 50 (0, 0))] :: [(b2, Obj.cells #[ptr c.gb] 89 (0, 0))] :: marksH (mk :: i.ms))) (r.ins ++ η)) ?_
                  refine T.pick [4, 10, 0, 1, 3, 2, 5, 6, 7, 8] [_, _, _, _, _, _, _, _, _, _, _] rfl rfl rfl ?_
                  refine T.drawH 19 mixed ?_
                  refine DH.read (i := 0) [(2, _, none)] rfl rfl rfl rfl ⟨⟨rfl, by kernel_rfl⟩, trivial⟩ (fun ext => TL.load hF rfl (by first | exact At.own' (i := 0) rfl rfl | exact At.own' (i := 1) rfl rfl | exact At.own' (i := 2) rfl rfl | exact At.own' (i := 3) rfl rfl | exact At.own' (i := 4) rfl rfl | exact At.own' (i := 5) rfl rfl | exact At.own' (i := 6) rfl rfl | exact At.own' (i := 7) rfl rfl | exact At.own' (i := 8) rfl rfl | exact At.own' (i := 9) rfl rfl | exact At.own' (i := 10) rfl rfl | exact At.own' (i := 11) rfl rfl | exact At.own' (i := 12) rfl rfl) rfl TL.fin) ?_
                  refine DH.read (i := 1) [(2, _, none)] rfl rfl rfl rfl ⟨⟨rfl, by kernel_rfl⟩, trivial⟩ (fun ext => TL.load hF rfl (by first | exact At.own' (i := 0) rfl rfl | exact At.own' (i := 1) rfl rfl | exact At.own' (i := 2) rfl rfl | exact At.own' (i := 3) rfl rfl | exact At.own' (i := 4) rfl rfl | exact At.own' (i := 5) rfl rfl | exact At.own' (i := 6) rfl rfl | exact At.own' (i := 7) rfl rfl | exact At.own' (i := 8) rfl rfl | exact At.own' (i := 9) rfl rfl | exact At.own' (i := 10) rfl rfl | exact At.own' (i := 11) rfl rfl | exact At.own' (i := 12) rfl rfl) rfl TL.fin) ?_
                  refine DH.read (i := 2) [(2, _, none)] rfl rfl rfl rfl ⟨⟨rfl, by kernel_rfl⟩, trivial⟩ (fun ext => TL.load hF rfl (by first | exact At.own' (i := 0) rfl rfl | exact At.own' (i := 1) rfl rfl | exact At.own' (i := 2) rfl rfl | exact At.own' (i := 3) rfl rfl | exact At.own' (i := 4) rfl rfl | exact At.own' (i := 5) rfl rfl | exact At.own' (i := 6) rfl rfl | exact At.own' (i := 7) rfl rfl | exact At.own' (i := 8) rfl rfl | exact At.own' (i := 9) rfl rfl | exact At.own' (i := 10) rfl rfl | exact At.own' (i := 11) rfl rfl | exact At.own' (i := 12) rfl rfl) rfl TL.fin) ?_
                  refine DH.pure (i := 3) [(160, _, some 2)] rfl rfl rfl rfl ⟨⟨rfl, rfl, rfl⟩, trivial⟩ (fun _ ext => TL.nilCheck hF rfl rfl TL.fin) ?_
                  refine DH.pure (i := 4) [(161, _, some 3)] rfl rfl rfl rfl ⟨⟨rfl, rfl, rfl⟩, trivial⟩ (fun _ ext => TL.fieldAddr hF rfl rfl TL.fin) ?_
                  refine DH.read (i := 5) [(162, _, some 4)] rfl rfl rfl rfl ⟨⟨rfl, rfl, rfl⟩, trivial⟩ (fun ext => TL.load hF rfl (by first | exact At.own' (i := 0) rfl rfl | exact At.own' (i := 1) rfl rfl | exact At.own' (i := 2) rfl rfl | exact At.own' (i := 3) rfl rfl | exact At.own' (i := 4) rfl rfl | exact At.own' (i := 5) rfl rfl | exact At.own' (i := 6) rfl rfl | exact At.own' (i := 7) rfl rfl | exact At.own' (i := 8) rfl rfl | exact At.own' (i := 9) rfl rfl | exact At.own' (i := 10) rfl rfl | exact At.own' (i := 11) rfl rfl | exact At.own' (i := 12) rfl rfl) rfl TL.fin) ?_
                  refine DH.pure (i := 6) [(18, _, none)] rfl rfl rfl rfl ⟨⟨rfl, by kernel_rfl⟩, trivial⟩ (fun _ ext => TL.move hF rfl rfl TL.fin) ?_
                  refine DH.read (i := 9) [(2, _, none)] rfl rfl rfl rfl ⟨⟨rfl, by kernel_rfl⟩, trivial⟩ (fun ext => TL.load hF rfl (by first | exact At.own' (i := 0) rfl rfl | exact At.own' (i := 1) rfl rfl | exact At.own' (i := 2) rfl rfl | exact At.own' (i := 3) rfl rfl | exact At.own' (i := 4) rfl rfl | exact At.own' (i := 5) rfl rfl | exact At.own' (i := 6) rfl rfl | exact At.own' (i := 7) rfl rfl | exact At.own' (i := 8) rfl rfl | exact At.own' (i := 9) rfl rfl | exact At.own' (i := 10) rfl rfl | exact At.own' (i := 11) rfl rfl | exact At.own' (i := 12) rfl rfl) rfl TL.fin) ?_
                  refine DH.pure (i := 10) [(167, _, some 9)] rfl rfl rfl rfl ⟨⟨rfl, rfl, rfl⟩, trivial⟩ (fun _ ext => TL.nilCheck hF rfl rfl TL.fin) ?_
                  refine DH.pure (i := 11) [(168, _, some 10)] rfl rfl rfl rfl ⟨⟨rfl, rfl, rfl⟩, trivial⟩ (fun _ ext => TL.fieldAddr hF rfl rfl TL.fin) ?_
                  refine DH.read (i := 12) [(169, _, some 11)] rfl rfl rfl rfl ⟨⟨rfl, rfl, rfl⟩, trivial⟩ (fun ext => TL.load hF rfl (by first | exact At.own' (i := 0) rfl rfl | exact At.own' (i := 1) rfl rfl | exact At.own' (i := 2) rfl rfl | exact At.own' (i := 3) rfl rfl | exact At.own' (i := 4) rfl rfl | exact At.own' (i := 5) rfl rfl | exact At.own' (i := 6) rfl rfl | exact At.own' (i := 7) rfl rfl | exact At.own' (i := 8) rfl rfl | exact At.own' (i := 9) rfl rfl | exact At.own' (i := 10) rfl rfl | exact At.own' (i := 11) rfl rfl | exact At.own' (i := 12) rfl rfl) rfl TL.fin) ?_
                  refine DH.pure (i := 13) [(19, _, none)] rfl rfl rfl rfl ⟨⟨rfl, by kernel_rfl⟩, trivial⟩ (fun _ ext => TL.move hF rfl rfl TL.fin) ?_
                  refine DH.k2 (by kernel_rfl) (by kernel_rfl) (by kernel_rfl) (by kernel_rfl) (HBK.mk (h := 7) [0, 1, 2, 5, 9, 12] [(164, _, some 6)] rfl rfl rfl ⟨⟨rfl, rfl, rfl⟩, trivial⟩ (by kernel_rfl) (fun ext => ?_)) (HBK.mk (h := 14) [0, 1, 2, 5, 9, 12] [(171, _, some 13)] rfl rfl rfl ⟨⟨rfl, rfl, rfl⟩, trivial⟩ (by kernel_rfl) (fun ext => ?_))
                  · refine TL.buildSlice hF rfl (cs := #[.slice sa q sc]) (e := 24) (fun w => by kernel_rfl) rfl (fun b165 => ?_)
                    refine TL.finK ⟨⟨_, rfl, _, _, [(2, _, none)], rfl, rfl, ⟨⟨rfl, by kernel_rfl⟩, trivial⟩, fun ext => TL.load hF rfl (by first | exact At.own' (i := 0) rfl rfl | exact At.own' (i := 1) rfl rfl | exact At.own' (i := 2) rfl rfl | exact At.own' (i := 3) rfl rfl | exact At.own' (i := 4) rfl rfl | exact At.own' (i := 5) rfl rfl | exact At.own' (i := 6) rfl rfl | exact At.own' (i := 7) rfl rfl | exact At.own' (i := 8) rfl rfl | exact At.own' (i := 9) rfl rfl | exact At.own' (i := 10) rfl rfl | exact At.own' (i := 11) rfl rfl | exact At.own' (i := 12) rfl rfl) rfl TL.fin⟩, ⟨_, rfl, _, _, [(2, _, none)], rfl, rfl, ⟨⟨rfl, by kernel_rfl⟩, trivial⟩, fun ext => TL.load hF rfl (by first | exact At.own' (i := 0) rfl rfl | exact At.own' (i := 1) rfl rfl | exact At.own' (i := 2) rfl rfl | exact At.own' (i := 3) rfl rfl | exact At.own' (i := 4) rfl rfl | exact At.own' (i := 5) rfl rfl | exact At.own' (i := 6) rfl rfl | exact At.own' (i := 7) rfl rfl | exact At.own' (i := 8) rfl rfl | exact At.own' (i := 9) rfl rfl | exact At.own' (i := 10) rfl rfl | exact At.own' (i := 11) rfl rfl | exact At.own' (i := 12) rfl rfl) rfl TL.fin⟩, ⟨_, rfl, _, _, [(2, _, none)], rfl, rfl, ⟨⟨rfl, by kernel_rfl⟩, trivial⟩, fun ext => TL.load hF rfl (by first | exact At.own' (i := 0) rfl rfl | exact At.own' (i := 1) rfl rfl | exact At.own' (i := 2) rfl rfl | exact At.own' (i := 3) rfl rfl | exact At.own' (i := 4) rfl rfl | exact At.own' (i := 5) rfl rfl | exact At.own' (i := 6) rfl rfl | exact At.own' (i := 7) rfl rfl | exact At.own' (i := 8) rfl rfl | exact At.own' (i := 9) rfl rfl | exact At.own' (i := 10) rfl rfl | exact At.own' (i := 11) rfl rfl | exact At.own' (i := 12) rfl rfl) rfl TL.fin⟩, ⟨_, rfl, _, _, [(162, _, some 4)], rfl, rfl, ⟨⟨rfl, rfl, rfl⟩, trivial⟩, fun ext => TL.load hF rfl (by first | exact At.own' (i := 0) rfl rfl | exact At.own' (i := 1) rfl rfl | exact At.own' (i := 2) rfl rfl | exact At.own' (i := 3) rfl rfl | exact At.own' (i := 4) rfl rfl | exact At.own' (i := 5) rfl rfl | exact At.own' (i := 6) rfl rfl | exact At.own' (i := 7) rfl rfl | exact At.own' (i := 8) rfl rfl | exact At.own' (i := 9) rfl rfl | exact At.own' (i := 10) rfl rfl | exact At.own' (i := 11) rfl rfl | exact At.own' (i := 12) rfl rfl) rfl TL.fin⟩, ⟨_, rfl, _, _, [(2, _, none)], rfl, rfl, ⟨⟨rfl, by kernel_rfl⟩, trivial⟩, fun ext => TL.load hF rfl (by first | exact At.own' (i := 0) rfl rfl | exact At.own' (i := 1) rfl rfl | exact At.own' (i := 2) rfl rfl | exact At.own' (i := 3) rfl rfl | exact At.own' (i := 4) rfl rfl | exact At.own' (i := 5) rfl rfl | exact At.own' (i := 6) rfl rfl | exact At.own' (i := 7) rfl rfl | exact At.own' (i := 8) rfl rfl | exact At.own' (i := 9) rfl rfl | exact At.own' (i := 10) rfl rfl | exact At.own' (i := 11) rfl rfl | exact At.own' (i := 12) rfl rfl) rfl TL.fin⟩, ⟨_, rfl, _, _, [(169, _, some 11)], rfl, rfl, ⟨⟨rfl, rfl, rfl⟩, trivial⟩, fun ext => TL.load hF rfl (by first | exact At.own' (i := 0) rfl rfl | exact At.own' (i := 1) rfl rfl | exact At.own' (i := 2) rfl rfl | exact At.own' (i := 3) rfl rfl | exact At.own' (i := 4) rfl rfl | exact At.own' (i := 5) rfl rfl | exact At.own' (i := 6) rfl rfl | exact At.own' (i := 7) rfl rfl | exact At.own' (i := 8) rfl rfl | exact At.own' (i := 9) rfl rfl | exact At.own' (i := 10) rfl rfl | exact At.own' (i := 11) rfl rfl | exact At.own' (i := 12) rfl rfl) rfl TL.fin⟩, trivial⟩ ?_
                    refine DH.k2 (by kernel_rfl) (by kernel_rfl) (by kernel_rfl) (by kernel_rfl) (HBK.mk (h := 8) [0, 1, 9, 12] [(163, _, some 5), (165, _, some 7)] rfl rfl rfl ⟨⟨rfl, rfl, rfl⟩, ⟨rfl, rfl, rfl⟩, trivial⟩ (by kernel_rfl) (fun ext => ?_)) (HBK.mk (h := 14) [0, 1, 2, 5, 9, 12] [(171, _, some 13)] rfl rfl rfl ⟨⟨rfl, rfl, rfl⟩, trivial⟩ (by kernel_rfl) (fun ext => ?_))
                    · first | refine TL.append hF 3 rfl rfl rfl hao (row_own (cs := [.slice sa q sc]) (e := 24) (by simp)).src rfl rfl (by simp [Value.oneCell']) (by omega) (by omega) rfl (fun a1 cap1 seg1 ho1 => ?_) | refine TL.append hF 4 rfl rfl rfl hao (row_own (cs := [.slice sa q sc]) (e := 24) (by simp)).src rfl rfl (by simp [Value.oneCell']) (by omega) (by omega) rfl (fun a1 cap1 seg1 ho1 => ?_)
                      refine TL.finK ⟨⟨_, rfl, _, _, [(2, _, none)], rfl, rfl, ⟨⟨rfl, by kernel_rfl⟩, trivial⟩, fun ext => TL.load hF rfl (by first | exact At.own' (i := 0) rfl rfl | exact At.own' (i := 1) rfl rfl | exact At.own' (i := 2) rfl rfl | exact At.own' (i := 3) rfl rfl | exact At.own' (i := 4) rfl rfl | exact At.own' (i := 5) rfl rfl | exact At.own' (i := 6) rfl rfl | exact At.own' (i := 7) rfl rfl | exact At.own' (i := 8) rfl rfl | exact At.own' (i := 9) rfl rfl | exact At.own' (i := 10) rfl rfl | exact At.own' (i := 11) rfl rfl | exact At.own' (i := 12) rfl rfl) rfl TL.fin⟩, ⟨_, rfl, _, _, [(2, _, none)], rfl, rfl, ⟨⟨rfl, by kernel_rfl⟩, trivial⟩, fun ext => TL.load hF rfl (by first | exact At.own' (i := 0) rfl rfl | exact At.own' (i := 1) rfl rfl | exact At.own' (i := 2) rfl rfl | exact At.own' (i := 3) rfl rfl | exact At.own' (i := 4) rfl rfl | exact At.own' (i := 5) rfl rfl | exact At.own' (i := 6) rfl rfl | exact At.own' (i := 7) rfl rfl | exact At.own' (i := 8) rfl rfl | exact At.own' (i := 9) rfl rfl | exact At.own' (i := 10) rfl rfl | exact At.own' (i := 11) rfl rfl | exact At.own' (i := 12) rfl rfl) rfl TL.fin⟩, ⟨_, rfl, _, _, [(2, _, none)], rfl, rfl, ⟨⟨rfl, by kernel_rfl⟩, trivial⟩, fun ext => TL.load hF rfl (by first | exact At.own' (i := 0) rfl rfl | exact At.own' (i := 1) rfl rfl | exact At.own' (i := 2) rfl rfl | exact At.own' (i := 3) rfl rfl | exact At.own' (i := 4) rfl rfl | exact At.own' (i := 5) rfl rfl | exact At.own' (i := 6) rfl rfl | exact At.own' (i := 7) rfl rfl | exact At.own' (i := 8) rfl rfl | exact At.own' (i := 9) rfl rfl | exact At.own' (i := 10) rfl rfl | exact At.own' (i := 11) rfl rfl | exact At.own' (i := 12) rfl rfl) rfl TL.fin⟩, ⟨_, rfl, _, _, [(169, _, some 11)], rfl, rfl, ⟨⟨rfl, rfl, rfl⟩, trivial⟩, fun ext => TL.load hF rfl (by first | exact At.own' (i := 0) rfl rfl | exact At.own' (i := 1) rfl rfl | exact At.own' (i := 2) rfl rfl | exact At.own' (i := 3) rfl rfl | exact At.own' (i := 4) rfl rfl | exact At.own' (i := 5) rfl rfl | exact At.own' (i := 6) rfl rfl | exact At.own' (i := 7) rfl rfl | exact At.own' (i := 8) rfl rfl | exact At.own' (i := 9) rfl rfl | exact At.own' (i := 10) rfl rfl | exact At.own' (i := 11) rfl rfl | exact At.own' (i := 12) rfl rfl) rfl TL.fin⟩, trivial⟩ ?_
                      refine DH.k1 (by kernel_rfl) (by kernel_rfl) (by kernel_rfl) (by kernel_rfl) (HBK.mk (h := 14) [0, 1, 9, 12] [(171, _, some 13)] rfl rfl rfl ⟨⟨rfl, rfl, rfl⟩, trivial⟩ (by kernel_rfl) (fun ext => ?_))
                      refine TL.buildSlice hF rfl (cs := #[.slice wa pl wc]) (e := 24) (fun w => by kernel_rfl) rfl (fun b172 => ?_)
                      refine TL.finK ⟨⟨_, rfl, _, _, [(2, _, none)], rfl, rfl, ⟨⟨rfl, by kernel_rfl⟩, trivial⟩, fun ext => TL.load hF rfl (by first | exact At.own' (i := 0) rfl rfl | exact At.own' (i := 1) rfl rfl | exact At.own' (i := 2) rfl rfl | exact At.own' (i := 3) rfl rfl | exact At.own' (i := 4) rfl rfl | exact At.own' (i := 5) rfl rfl | exact At.own' (i := 6) rfl rfl | exact At.own' (i := 7) rfl rfl | exact At.own' (i := 8) rfl rfl | exact At.own' (i := 9) rfl rfl | exact At.own' (i := 10) rfl rfl | exact At.own' (i := 11) rfl rfl | exact At.own' (i := 12) rfl rfl) rfl TL.fin⟩, ⟨_, rfl, _, _, [(2, _, none)], rfl, rfl, ⟨⟨rfl, by kernel_rfl⟩, trivial⟩, fun ext => TL.load hF rfl (by first | exact At.own' (i := 0) rfl rfl | exact At.own' (i := 1) rfl rfl | exact At.own' (i := 2) rfl rfl | exact At.own' (i := 3) rfl rfl | exact At.own' (i := 4) rfl rfl | exact At.own' (i := 5) rfl rfl | exact At.own' (i := 6) rfl rfl | exact At.own' (i := 7) rfl rfl | exact At.own' (i := 8) rfl rfl | exact At.own' (i := 9) rfl rfl | exact At.own' (i := 10) rfl rfl | exact At.own' (i := 11) rfl rfl | exact At.own' (i := 12) rfl rfl) rfl TL.fin⟩, ⟨_, rfl, _, _, [(2, _, none)], rfl, rfl, ⟨⟨rfl, by kernel_rfl⟩, trivial⟩, fun ext => TL.load hF rfl (by first | exact At.own' (i := 0) rfl rfl | exact At.own' (i := 1) rfl rfl | exact At.own' (i := 2) rfl rfl | exact At.own' (i := 3) rfl rfl | exact At.own' (i := 4) rfl rfl | exact At.own' (i := 5) rfl rfl | exact At.own' (i := 6) rfl rfl | exact At.own' (i := 7) rfl rfl | exact At.own' (i := 8) rfl rfl | exact At.own' (i := 9) rfl rfl | exact At.own' (i := 10) rfl rfl | exact At.own' (i := 11) rfl rfl | exact At.own' (i := 12) rfl rfl) rfl TL.fin⟩, ⟨_, rfl, _, _, [(169, _, some 11)], rfl, rfl, ⟨⟨rfl, rfl, rfl⟩, trivial⟩, fun ext => TL.load hF rfl (by first | exact At.own' (i := 0) rfl rfl | exact At.own' (i := 1) rfl rfl | exact At.own' (i := 2) rfl rfl | exact At.own' (i := 3) rfl rfl | exact At.own' (i := 4) rfl rfl | exact At.own' (i := 5) rfl rfl | exact At.own' (i := 6) rfl rfl | exact At.own' (i := 7) rfl rfl | exact At.own' (i := 8) rfl rfl | exact At.own' (i := 9) rfl rfl | exact At.own' (i := 10) rfl rfl | exact At.own' (i := 11) rfl rfl | exact At.own' (i := 12) rfl rfl) rfl TL.fin⟩, trivial⟩ ?_
                      refine DH.k1 (by kernel_rfl) (by kernel_rfl) (by kernel_rfl) (by kernel_rfl) (HBK.mk (h := 15) [0, 1] [(170, _, some 12), (172, _, some 14)] rfl rfl rfl ⟨⟨rfl, rfl, rfl⟩, ⟨rfl, rfl, rfl⟩, trivial⟩ (by kernel_rfl) (fun ext => ?_))
                      refine TL.append hF 5 rfl rfl rfl hwo (row_own (cs := [.slice wa pl wc]) (e := 24) (by simp)).src rfl rfl (by simp [Value.oneCell']) (by omega) (by omega) rfl (fun a2 cap2 seg2 ho2 => ?_)
                      refine TL.finK ⟨⟨_, rfl, _, _, [(2, _, none)], rfl, rfl, ⟨⟨rfl, by kernel_rfl⟩, trivial⟩, fun ext => TL.load hF rfl (by first | exact At.own' (i := 0) rfl rfl | exact At.own' (i := 1) rfl rfl | exact At.own' (i := 2) rfl rfl | exact At.own' (i := 3) rfl rfl | exact At.own' (i := 4) rfl rfl | exact At.own' (i := 5) rfl rfl | exact At.own' (i := 6) rfl rfl | exact At.own' (i := 7) rfl rfl | exact At.own' (i := 8) rfl rfl | exact At.own' (i := 9) rfl rfl | exact At.own' (i := 10) rfl rfl | exact At.own' (i := 11) rfl rfl | exact At.own' (i := 12) rfl rfl) rfl TL.fin⟩, ⟨_, rfl, _, _, [(2, _, none)], rfl, rfl, ⟨⟨rfl, by kernel_rfl⟩, trivial⟩, fun ext => TL.load hF rfl (by first | exact At.own' (i := 0) rfl rfl | exact At.own' (i := 1) rfl rfl | exact At.own' (i := 2) rfl rfl | exact At.own' (i := 3) rfl rfl | exact At.own' (i := 4) rfl rfl | exact At.own' (i := 5) rfl rfl | exact At.own' (i := 6) rfl rfl | exact At.own' (i := 7) rfl rfl | exact At.own' (i := 8) rfl rfl | exact At.own' (i := 9) rfl rfl | exact At.own' (i := 10) rfl rfl | exact At.own' (i := 11) rfl rfl | exact At.own' (i := 12) rfl rfl) rfl TL.fin⟩, trivial⟩ ?_
                      refine DH.pure (i := 16) [(158, _, some 0)] rfl rfl rfl rfl ⟨⟨rfl, rfl, rfl⟩, trivial⟩ (fun _ ext => TL.nilCheck hF rfl rfl TL.fin) ?_
                      refine DH.pure (i := 17) [(174, _, some 16)] rfl rfl rfl rfl ⟨⟨rfl, rfl, rfl⟩, trivial⟩ (fun _ ext => TL.fieldAddr hF rfl rfl TL.fin) ?_
                      refine DH.k1 (by kernel_rfl) (by kernel_rfl) (by kernel_rfl) (by kernel_rfl) (HBK.mk (h := 18) [1] [(175, _, some 17), (166, _, some 8)] rfl rfl rfl ⟨⟨rfl, rfl, rfl⟩, ⟨rfl, rfl, rfl⟩, trivial⟩ (by kernel_rfl) (fun ext => ?_))
                      refine TL.storeI hF 2 rfl rfl rfl rfl (by simp) ?_
                      refine TL.finKN ⟨⟨_, rfl, _, _, [(2, _, none)], rfl, rfl, ⟨⟨rfl, by kernel_rfl⟩, trivial⟩, fun ext => TL.load hF rfl (by first | exact At.own' (i := 0) rfl rfl | exact At.own' (i := 1) rfl rfl | exact At.own' (i := 2) rfl rfl | exact At.own' (i := 3) rfl rfl | exact At.own' (i := 4) rfl rfl | exact At.own' (i := 5) rfl rfl | exact At.own' (i := 6) rfl rfl | exact At.own' (i := 7) rfl rfl | exact At.own' (i := 8) rfl rfl | exact At.own' (i := 9) rfl rfl | exact At.own' (i := 10) rfl rfl | exact At.own' (i := 11) rfl rfl | exact At.own' (i := 12) rfl rfl) rfl TL.fin⟩, trivial⟩ ?_
                      refine DH.done [(175, _), (174, _), (173, _), (172, _), (166, _), (165, _), (171, _), (170, _), (169, _), (168, _), (167, _), (164, _), (163, _), (162, _), (161, _), (160, _), (159, _), (158, _)] [_, _, _] (by kernel_rfl) (by kernel_rfl) (by kernel_rfl) (by kernel_rfl) rfl rfl ?_
                      refine TL.nilCheck hF rfl rfl ?_
                      refine TL.fieldAddr hF rfl rfl ?_
                      refine TL.storeI hF 2 rfl rfl rfl rfl (by simp) ?_
                      refine TL.nil ?_
                      refine TQ.block_n ?_
                      refine TQ.then_n ?_
                      refine T.region ?_
                      refine TL.add hF rfl rfl (by omega) (by omega) rfl ?_
                      refine TL.move hF rfl rfl ?_
                      refine TL.nil ?_
                      refine TQ.pick [2, 8, 9, 10, 11, 3, 4, 5, 6, 7] [_, _, _, _, _, _, _, _, _, _, _, _] rfl rfl rfl ?_
                      have hr2 : ROk l pick all ⟨r.k + 1, { i.x with av := .slice a1 (r.ao.length + 1) cap1, wv := .slice a2 (r.wo.length + 1) cap2 }, i.s, r.ds ++ i.acc, r.many + i.cnt, r.ao ++ [(.slice sa q sc, (all[r.k]'(by omega)).asks.map fun a => i.s.W a.toNat, sg)], r.wo ++ [(.slice wa pl wc, eagerOf l i.s.W, wsg)], seg1, seg2, sg :: wsg :: r.ins, mk :: i.ms, r.Ws ++ [i.s.W]⟩ := {
                        k := by simp only; omega
                        e := ⟨hE6.map, hE6.zero, hE6.done, hE6.word⟩
                        a := hr.a.snoc ho1 (by rw [List.length_map, ← hql]; exact hos)
                        w := hr.w.snoc ho2 (by
                          have hlw : (eagerOf l i.s.W).length = pl := by have := how.len; rw [hpl3] at this; simpa [eagerOf] using this
                          rw [hlw, eagerOf, ← hpl3]; exact how)
                        ia := fun t ht => by
                          rcases List.mem_append.1 ht with h | h
                          · exact List.mem_cons_of_mem _ (List.mem_cons_of_mem _ (hr.ia t h))
                          · rw [List.mem_singleton.1 h]; exact List.mem_cons_self
                        iw := fun t ht => by
                          rcases List.mem_append.1 ht with h | h
                          · exact List.mem_cons_of_mem _ (List.mem_cons_of_mem _ (hr.iw t h))
                          · rw [List.mem_singleton.1 h]; exact List.mem_cons_of_mem _ List.mem_cons_self
                        L := fun j hj => by have := hL4.L j hj; simp only; omega
                        used := hL4.used
                        at' := hat4
                        many := by simp only; omega
                        dn := hdn4
                        al := by simp only [List.length_append, List.length_singleton]; omega
                        wl := by simp only [List.length_append, List.length_singleton]; omega
                        spec := by rw [hr.spec, allS_drop hkl, hins]; simp [List.append_assoc, Nat.add_assoc]
                        ws := by simp only [List.length_append, List.length_singleton, hr.ws]
                        asked := by rw [askedOf_snoc hkl hr.ws, List.map_append, hr.asked]; rfl
                        eager := by rw [List.map_append, List.map_append, hr.eager]; rfl }
                      refine TQ.hperm (engH c l.length pick.length { i.x with av := .slice a1 (r.ao.length + 1) cap1, wv := .slice a2 (r.wo.length + 1) cap2 } i.s (r.ds ++ i.acc).length (r.many + i.cnt) ([(b2, Obj.cells #[ptr c.gb] 89 (0, 0))] :: (marksH (mk :: i.ms) ++ seg1 :: seg2 :: ((sg :: wsg :: r.ins) ++ η)))) (List.Perm.append_left [_, _, _, _, _, _] (mid (marksH (mk :: i.ms)) [seg1, seg2, sg, wsg] (r.ins ++ η))) ?_
                      exact TQ.roundD ⟨r.k + 1, { i.x with av := .slice a1 (r.ao.length + 1) cap1, wv := .slice a2 (r.wo.length + 1) cap2 }, i.s, r.ds ++ i.acc, r.many + i.cnt, r.ao ++ [(.slice sa q sc, (all[r.k]'(by omega)).asks.map fun a => i.s.W a.toNat, sg)], r.wo ++ [(.slice wa pl wc, eagerOf l i.s.W, wsg)], seg1, seg2, sg :: wsg :: r.ins, mk :: i.ms, r.Ws ++ [i.s.W]⟩ hr2 (by simp only; omega) ⟨rfl, rfl, rfl, rfl, rfl, trivial⟩ rfl rfl
                    · refine TL.buildSlice hF rfl (cs := #[.slice wa pl wc]) (e := 24) (fun w => by kernel_rfl) rfl (fun b172 => ?_)
                      refine TL.finK ⟨⟨_, rfl, _, _, [(2, _, none)], rfl, rfl, ⟨⟨rfl, by kernel_rfl⟩, trivial⟩, fun ext => TL.load hF rfl (by first | exact At.own' (i := 0) rfl rfl | exact At.own' (i := 1) rfl rfl | exact At.own' (i := 2) rfl rfl | exact At.own' (i := 3) rfl rfl | exact At.own' (i := 4) rfl rfl | exact At.own' (i := 5) rfl rfl | exact At.own' (i := 6) rfl rfl | exact At.own' (i := 7) rfl rfl | exact At.own' (i := 8) rfl rfl | exact At.own' (i := 9) rfl rfl | exact At.own' (i := 10) rfl rfl | exact At.own' (i := 11) rfl rfl | exact At.own' (i := 12) rfl rfl) rfl TL.fin⟩, ⟨_, rfl, _, _, [(2, _, none)], rfl, rfl, ⟨⟨rfl, by kernel_rfl⟩, trivial⟩, fun ext => TL.load hF rfl (by first | exact At.own' (i := 0) rfl rfl | exact At.own' (i := 1) rfl rfl | exact At.own' (i := 2) rfl rfl | exact At.own' (i := 3) rfl rfl | exact At.own' (i := 4) rfl rfl | exact At.own' (i := 5) rfl rfl | exact At.own' (i := 6) rfl rfl | exact At.own' (i := 7) rfl rfl | exact At.own' (i := 8) rfl rfl | exact At.own' (i := 9) rfl rfl | exact At.own' (i := 10) rfl rfl | exact At.own' (i := 11) rfl rfl | exact At.own' (i := 12) rfl rfl) rfl TL.fin⟩, ⟨_, rfl, _, _, [(2, _, none)], rfl, rfl, ⟨⟨rfl, by kernel_rfl⟩, trivial⟩, fun ext => TL.load hF rfl (by first | exact At.own' (i := 0) rfl rfl | exact At.own' (i := 1) rfl rfl | exact At.own' (i := 2) rfl rfl | exact At.own' (i := 3) rfl rfl | exact At.own' (i := 4) rfl rfl | exact At.own' (i := 5) rfl rfl | exact At.own' (i := 6) rfl rfl | exact At.own' (i := 7) rfl rfl | exact At.own' (i := 8) rfl rfl | exact At.own' (i := 9) rfl rfl | exact At.own' (i := 10) rfl rfl | exact At.own' (i := 11) rfl rfl | exact At.own' (i := 12) rfl rfl) rfl TL.fin⟩, ⟨_, rfl, _, _, [(162, _, some 4)], rfl, rfl, ⟨⟨rfl, rfl, rfl⟩, trivial⟩, fun ext => TL.load hF rfl (by first | exact At.own' (i := 0) rfl rfl | exact At.own' (i := 1) rfl rfl | exact At.own' (i := 2) rfl rfl | exact At.own' (i := 3) rfl rfl | exact At.own' (i := 4) rfl rfl | exact At.own' (i := 5) rfl rfl | exact At.own' (i := 6) rfl rfl | exact At.own' (i := 7) rfl rfl | exact At.own' (i := 8) rfl rfl | exact At.own' (i := 9) rfl rfl | exact At.own' (i := 10) rfl rfl | exact At.own' (i := 11) rfl rfl | exact At.own' (i := 12) rfl rfl) rfl TL.fin⟩, ⟨_, rfl, _, _, [(2, _, none)], rfl, rfl, ⟨⟨rfl, by kernel_rfl⟩, trivial⟩, fun ext => TL.load hF rfl (by first | exact At.own' (i := 0) rfl rfl | exact At.own' (i := 1) rfl rfl | exact At.own' (i := 2) rfl rfl | exact At.own' (i := 3) rfl rfl | exact At.own' (i := 4) rfl rfl | exact At.own' (i := 5) rfl rfl | exact At.own' (i := 6) rfl rfl | exact At.own' (i := 7) rfl rfl | exact At.own' (i := 8) rfl rfl | exact At.own' (i := 9) rfl rfl | exact At.own' (i := 10) rfl rfl | exact At.own' (i := 11) rfl rfl | exact At.own' (i := 12) rfl rfl) rfl TL.fin⟩, ⟨_, rfl, _, _, [(169, _, some 11)], rfl, rfl, ⟨⟨rfl, rfl, rfl⟩, trivial⟩, fun ext => TL.load hF rfl (by first | exact At.own' (i := 0) rfl rfl | exact At.own' (i := 1) rfl rfl | exact At.own' (i := 2) rfl rfl | exact At.own' (i := 3) rfl rfl | exact At.own' (i := 4) rfl rfl | exact At.own' (i := 5) rfl rfl | exact At.own' (i := 6) rfl rfl | exact At.own' (i := 7) rfl rfl | exact At.own' (i := 8) rfl rfl | exact At.own' (i := 9) rfl rfl | exact At.own' (i := 10) rfl rfl | exact At.own' (i := 11) rfl rfl | exact At.own' (i := 12) rfl rfl) rfl TL.fin⟩, trivial⟩ ?_
                      refine DH.k1 (by kernel_rfl) (by kernel_rfl) (by kernel_rfl) (by kernel_rfl) (HBK.mk (h := 8) [0, 1, 9, 12] [(163, _, some 5), (165, _, some 7)] rfl rfl rfl ⟨⟨rfl, rfl, rfl⟩, ⟨rfl, rfl, rfl⟩, trivial⟩ (by kernel_rfl) (fun ext => ?_))
                      first | refine TL.append hF 3 rfl rfl rfl hao (row_own (cs := [.slice sa q sc]) (e := 24) (by simp)).src rfl rfl (by simp [Value.oneCell']) (by omega) (by omega) rfl (fun a1 cap1 seg1 ho1 => ?_) | refine TL.append hF 4 rfl rfl rfl hao (row_own (cs := [.slice sa q sc]) (e := 24) (by simp)).src rfl rfl (by simp [Value.oneCell']) (by omega) (by omega) rfl (fun a1 cap1 seg1 ho1 => ?_)
                      refine TL.finK ⟨⟨_, rfl, _, _, [(2, _, none)], rfl, rfl, ⟨⟨rfl, by kernel_rfl⟩, trivial⟩, fun ext => TL.load hF rfl (by first | exact At.own' (i := 0) rfl rfl | exact At.own' (i := 1) rfl rfl | exact At.own' (i := 2) rfl rfl | exact At.own' (i := 3) rfl rfl | exact At.own' (i := 4) rfl rfl | exact At.own' (i := 5) rfl rfl | exact At.own' (i := 6) rfl rfl | exact At.own' (i := 7) rfl rfl | exact At.own' (i := 8) rfl rfl | exact At.own' (i := 9) rfl rfl | exact At.own' (i := 10) rfl rfl | exact At.own' (i := 11) rfl rfl | exact At.own' (i := 12) rfl rfl) rfl TL.fin⟩, ⟨_, rfl, _, _, [(2, _, none)], rfl, rfl, ⟨⟨rfl, by kernel_rfl⟩, trivial⟩, fun ext => TL.load hF rfl (by first | exact At.own' (i := 0) rfl rfl | exact At.own' (i := 1) rfl rfl | exact At.own' (i := 2) rfl rfl | exact At.own' (i := 3) rfl rfl | exact At.own' (i := 4) rfl rfl | exact At.own' (i := 5) rfl rfl | exact At.own' (i := 6) rfl rfl | exact At.own' (i := 7) rfl rfl | exact At.own' (i := 8) rfl rfl | exact At.own' (i := 9) rfl rfl | exact At.own' (i := 10) rfl rfl | exact At.own' (i := 11) rfl rfl | exact At.own' (i := 12) rfl rfl) rfl TL.fin⟩, ⟨_, rfl, _, _, [(2, _, none)], rfl, rfl, ⟨⟨rfl, by kernel_rfl⟩, trivial⟩, fun ext => TL.load hF rfl (by first | exact At.own' (i := 0) rfl rfl | exact At.own' (i := 1) rfl rfl | exact At.own' (i := 2) rfl rfl | exact At.own' (i := 3) rfl rfl | exact At.own' (i := 4) rfl rfl | exact At.own' (i := 5) rfl rfl | exact At.own' (i := 6) rfl rfl | exact At.own' (i := 7) rfl rfl | exact At.own' (i := 8) rfl rfl | exact At.own' (i := 9) rfl rfl | exact At.own' (i := 10) rfl rfl | exact At.own' (i := 11) rfl rfl | exact At.own' (i := 12) rfl rfl) rfl TL.fin⟩, ⟨_, rfl, _, _, [(169, _, some 11)], rfl, rfl, ⟨⟨rfl, rfl, rfl⟩, trivial⟩, fun ext => TL.load hF rfl (by first | exact At.own' (i := 0) rfl rfl | exact At.own' (i := 1) rfl rfl | exact At.own' (i := 2) rfl rfl | exact At.own' (i := 3) rfl rfl | exact At.own' (i := 4) rfl rfl | exact At.own' (i := 5) rfl rfl | exact At.own' (i := 6) rfl rfl | exact At.own' (i := 7) rfl rfl | exact At.own' (i := 8) rfl rfl | exact At.own' (i := 9) rfl rfl | exact At.own' (i := 10) rfl rfl | exact At.own' (i := 11) rfl rfl | exact At.own' (i := 12) rfl rfl) rfl TL.fin⟩, trivial⟩ ?_
                      refine DH.k1 (by kernel_rfl) (by kernel_rfl) (by kernel_rfl) (by kernel_rfl) (HBK.mk (h := 15) [0, 1] [(170, _, some 12), (172, _, some 14)] rfl rfl rfl ⟨⟨rfl, rfl, rfl⟩, ⟨rfl, rfl, rfl⟩, trivial⟩ (by kernel_rfl) (fun ext => ?_))
                      refine TL.append hF 5 rfl rfl rfl hwo (row_own (cs := [.slice wa pl wc]) (e := 24) (by simp)).src rfl rfl (by simp [Value.oneCell']) (by omega) (by omega) rfl (fun a2 cap2 seg2 ho2 => ?_)
                      refine TL.finK ⟨⟨_, rfl, _, _, [(2, _, none)], rfl, rfl, ⟨⟨rfl, by kernel_rfl⟩, trivial⟩, fun ext => TL.load hF rfl (by first | exact At.own' (i := 0) rfl rfl | exact At.own' (i := 1) rfl rfl | exact At.own' (i := 2) rfl rfl | exact At.own' (i := 3) rfl rfl | exact At.own' (i := 4) rfl rfl | exact At.own' (i := 5) rfl rfl | exact At.own' (i := 6) rfl rfl | exact At.own' (i := 7) rfl rfl | exact At.own' (i := 8) rfl rfl | exact At.own' (i := 9) rfl rfl | exact At.own' (i := 10) rfl rfl | exact At.own' (i := 11) rfl rfl | exact At.own' (i := 12) rfl rfl) rfl TL.fin⟩, ⟨_, rfl, _, _, [(2, _, none)], rfl, rfl, ⟨⟨rfl, by kernel_rfl⟩, trivial⟩, fun ext => TL.load hF rfl (by first | exact At.own' (i := 0) rfl rfl | exact At.own' (i := 1) rfl rfl | exact At.own' (i := 2) rfl rfl | exact At.own' (i := 3) rfl rfl | exact At.own' (i := 4) rfl rfl | exact At.own' (i := 5) rfl rfl | exact At.own' (i := 6) rfl rfl | exact At.own' (i := 7) rfl rfl | exact At.own' (i := 8) rfl rfl | exact At.own' (i := 9) rfl rfl | exact At.own' (i := 10) rfl rfl | exact At.own' (i := 11) rfl rfl | exact At.own' (i := 12) rfl rfl) rfl TL.fin⟩, trivial⟩ ?_
                      refine DH.pure (i := 16) [(158, _, some 0)] rfl rfl rfl rfl ⟨⟨rfl, rfl, rfl⟩, trivial⟩ (fun _ ext => TL.nilCheck hF rfl rfl TL.fin) ?_
                      refine DH.pure (i := 17) [(174, _, some 16)] rfl rfl rfl rfl ⟨⟨rfl, rfl, rfl⟩, trivial⟩ (fun _ ext => TL.fieldAddr hF rfl rfl TL.fin) ?_
                      refine DH.k1 (by kernel_rfl) (by kernel_rfl) (by kernel_rfl) (by kernel_rfl) (HBK.mk (h := 18) [1] [(175, _, some 17), (166, _, some 8)] rfl rfl rfl ⟨⟨rfl, rfl, rfl⟩, ⟨rfl, rfl, rfl⟩, trivial⟩ (by kernel_rfl) (fun ext => ?_))
                      refine TL.storeI hF 2 rfl rfl rfl rfl (by simp) ?_
                      refine TL.finKN ⟨⟨_, rfl, _, _, [(2, _, none)], rfl, rfl, ⟨⟨rfl, by kernel_rfl⟩, trivial⟩, fun ext => TL.load hF rfl (by first | exact At.own' (i := 0) rfl rfl | exact At.own' (i := 1) rfl rfl | exact At.own' (i := 2) rfl rfl | exact At.own' (i := 3) rfl rfl | exact At.own' (i := 4) rfl rfl | exact At.own' (i := 5) rfl rfl | exact At.own' (i := 6) rfl rfl | exact At.own' (i := 7) rfl rfl | exact At.own' (i := 8) rfl rfl | exact At.own' (i := 9) rfl rfl | exact At.own' (i := 10) rfl rfl | exact At.own' (i := 11) rfl rfl | exact At.own' (i := 12) rfl rfl) rfl TL.fin⟩, trivial⟩ ?_
                      refine DH.done [(175, _), (174, _), (173, _), (166, _), (172, _), (165, _), (171, _), (170, _), (169, _), (168, _), (167, _), (164, _), (163, _), (162, _), (161, _), (160, _), (159, _), (158, _)] [_, _, _] (by kernel_rfl) (by kernel_rfl) (by kernel_rfl) (by kernel_rfl) rfl rfl ?_
                      refine TL.nilCheck hF rfl rfl ?_
                      refine TL.fieldAddr hF rfl rfl ?_
                      refine TL.storeI hF 2 rfl rfl rfl rfl (by simp) ?_
                      refine TL.nil ?_
                      refine TQ.block_n ?_
                      refine TQ.then_n ?_
                      refine T.region ?_
                      refine TL.add hF rfl rfl (by omega) (by omega) rfl ?_
                      refine TL.move hF rfl rfl ?_
                      refine TL.nil ?_
                      refine TQ.pick [2, 8, 9, 10, 11, 3, 4, 5, 6, 7] [_, _, _, _, _, _, _, _, _, _, _, _] rfl rfl rfl ?_
                      have hr2 : ROk l pick all ⟨r.k + 1, { i.x with av := .slice a1 (r.ao.length + 1) cap1, wv := .slice a2 (r.wo.length + 1) cap2 }, i.s, r.ds ++ i.acc, r.many + i.cnt, r.ao ++ [(.slice sa q sc, (all[r.k]'(by omega)).asks.map fun a => i.s.W a.toNat, sg)], r.wo ++ [(.slice wa pl wc, eagerOf l i.s.W, wsg)], seg1, seg2, sg :: wsg :: r.ins, mk :: i.ms, r.Ws ++ [i.s.W]⟩ := {
                        k := by simp only; omega
                        e := ⟨hE6.map, hE6.zero, hE6.done, hE6.word⟩
                        a := hr.a.snoc ho1 (by rw [List.length_map, ← hql]; exact hos)
                        w := hr.w.snoc ho2 (by
                          have hlw : (eagerOf l i.s.W).length = pl := by have := how.len; rw [hpl3] at this; simpa [eagerOf] using this
                          rw [hlw, eagerOf, ← hpl3]; exact how)
                        ia := fun t ht => by
                          rcases List.mem_append.1 ht with h | h
                          · exact List.mem_cons_of_mem _ (List.mem_cons_of_mem _ (hr.ia t h))
                          · rw [List.mem_singleton.1 h]; exact List.mem_cons_self
                        iw := fun t ht => by
                          rcases List.mem_append.1 ht with h | h
                          · exact List.mem_cons_of_mem _ (List.mem_cons_of_mem _ (hr.iw t h))
                          · rw [List.mem_singleton.1 h]; exact List.mem_cons_of_mem _ List.mem_cons_self
                        L := fun j hj => by have := hL4.L j hj; simp only; omega
                        used := hL4.used
                        at' := hat4
                        many := by simp only; omega
                        dn := hdn4
                        al := by simp only [List.length_append, List.length_singleton]; omega
                        wl := by simp only [List.length_append, List.length_singleton]; omega
                        spec := by rw [hr.spec, allS_drop hkl, hins]; simp [List.append_assoc, Nat.add_assoc]
                        ws := by simp only [List.length_append, List.length_singleton, hr.ws]
                        asked := by rw [askedOf_snoc hkl hr.ws, List.map_append, hr.asked]; rfl
                        eager := by rw [List.map_append, List.map_append, hr.eager]; rfl }
                      refine TQ.hperm (engH c l.length pick.length { i.x with av := .slice a1 (r.ao.length + 1) cap1, wv := .slice a2 (r.wo.length + 1) cap2 } i.s (r.ds ++ i.acc).length (r.many + i.cnt) ([(b2, Obj.cells #[ptr c.gb] 89 (0, 0))] :: (marksH (mk :: i.ms) ++ seg1 :: seg2 :: ((sg :: wsg :: r.ins) ++ η)))) (List.Perm.append_left [_, _, _, _, _, _] (mid (marksH (mk :: i.ms)) [seg1, seg2, sg, wsg] (r.ins ++ η))) ?_
                      exact TQ.roundD ⟨r.k + 1, { i.x with av := .slice a1 (r.ao.length + 1) cap1, wv := .slice a2 (r.wo.length + 1) cap2 }, i.s, r.ds ++ i.acc, r.many + i.cnt, r.ao ++ [(.slice sa q sc, (all[r.k]'(by omega)).asks.map fun a => i.s.W a.toNat, sg)], r.wo ++ [(.slice wa pl wc, eagerOf l i.s.W, wsg)], seg1, seg2, sg :: wsg :: r.ins, mk :: i.ms, r.Ws ++ [i.s.W]⟩ hr2 (by simp only; omega) ⟨rfl, rfl, rfl, rfl, rfl, trivial⟩ rfl rfl
                  · refine TL.buildSlice hF rfl (cs := #[.slice wa pl wc]) (e := 24) (fun w => by kernel_rfl) rfl (fun b172 => ?_)
                    refine TL.finK ⟨⟨_, rfl, _, _, [(2, _, none)], rfl, rfl, ⟨⟨rfl, by kernel_rfl⟩, trivial⟩, fun ext => TL.load hF rfl (by first | exact At.own' (i := 0) rfl rfl | exact At.own' (i := 1) rfl rfl | exact At.own' (i := 2) rfl rfl | exact At.own' (i := 3) rfl rfl | exact At.own' (i := 4) rfl rfl | exact At.own' (i := 5) rfl rfl | exact At.own' (i := 6) rfl rfl | exact At.own' (i := 7) rfl rfl | exact At.own' (i := 8) rfl rfl | exact At.own' (i := 9) rfl rfl | exact At.own' (i := 10) rfl rfl | exact At.own' (i := 11) rfl rfl | exact At.own' (i := 12) rfl rfl) rfl TL.fin⟩, ⟨_, rfl, _, _, [(2, _, none)], rfl, rfl, ⟨⟨rfl, by kernel_rfl⟩, trivial⟩, fun ext => TL.load hF rfl (by first | exact At.own' (i := 0) rfl rfl | exact At.own' (i := 1) rfl rfl | exact At.own' (i := 2) rfl rfl | exact At.own' (i := 3) rfl rfl | exact At.own' (i := 4) rfl rfl | exact At.own' (i := 5) rfl rfl | exact At.own' (i := 6) rfl rfl | exact At.own' (i := 7) rfl rfl | exact At.own' (i := 8) rfl rfl | exact At.own' (i := 9) rfl rfl | exact At.own' (i := 10) rfl rfl | exact At.own' (i := 11) rfl rfl | exact At.own' (i := 12) rfl rfl) rfl TL.fin⟩, ⟨_, rfl, _, _, [(2, _, none)], rfl, rfl, ⟨⟨rfl, by kernel_rfl⟩, trivial⟩, fun ext => TL.load hF rfl (by first | exact At.own' (i := 0) rfl rfl | exact At.own' (i := 1) rfl rfl | exact At.own' (i := 2) rfl rfl | exact At.own' (i := 3) rfl rfl | exact At.own' (i := 4) rfl rfl | exact At.own' (i := 5) rfl rfl | exact At.own' (i := 6) rfl rfl | exact At.own' (i := 7) rfl rfl | exact At.own' (i := 8) rfl rfl | exact At.own' (i := 9) rfl rfl | exact At.own' (i := 10) rfl rfl | exact At.own' (i := 11) rfl rfl | exact At.own' (i := 12) rfl rfl) rfl TL.fin⟩, ⟨_, rfl, _, _, [(162, _, some 4)], rfl, rfl, ⟨⟨rfl, rfl, rfl⟩, trivial⟩, fun ext => TL.load hF rfl (by first | exact At.own' (i := 0) rfl rfl | exact At.own' (i := 1) rfl rfl | exact At.own' (i := 2) rfl rfl | exact At.own' (i := 3) rfl rfl | exact At.own' (i := 4) rfl rfl | exact At.own' (i := 5) rfl rfl | exact At.own' (i := 6) rfl rfl | exact At.own' (i := 7) rfl rfl | exact At.own' (i := 8) rfl rfl | exact At.own' (i := 9) rfl rfl | exact At.own' (i := 10) rfl rfl | exact At.own' (i := 11) rfl rfl | exact At.own' (i := 12) rfl rfl) rfl TL.fin⟩, ⟨_, rfl, _, _, [(2, _, none)], rfl, rfl, ⟨⟨rfl, by kernel_rfl⟩, trivial⟩, fun ext => TL.load hF rfl (by first | exact At.own' (i := 0) rfl rfl | exact At.own' (i := 1) rfl rfl | exact At.own' (i := 2) rfl rfl | exact At.own' (i := 3) rfl rfl | exact At.own' (i := 4) rfl rfl | exact At.own' (i := 5) rfl rfl | exact At.own' (i := 6) rfl rfl | exact At.own' (i := 7) rfl rfl | exact At.own' (i := 8) rfl rfl | exact At.own' (i := 9) rfl rfl | exact At.own' (i := 10) rfl rfl | exact At.own' (i := 11) rfl rfl | exact At.own' (i := 12) rfl rfl) rfl TL.fin⟩, ⟨_, rfl, _, _, [(169, _, some 11)], rfl, rfl, ⟨⟨rfl, rfl, rfl⟩, trivial⟩, fun ext => TL.load hF rfl (by first | exact At.own' (i := 0) rfl rfl | exact At.own' (i := 1) rfl rfl | exact At.own' (i := 2) rfl rfl | exact At.own' (i := 3) rfl rfl | exact At.own' (i := 4) rfl rfl | exact At.own' (i := 5) rfl rfl | exact At.own' (i := 6) rfl rfl | exact At.own' (i := 7) rfl rfl | exact At.own' (i := 8) rfl rfl | exact At.own' (i := 9) rfl rfl | exact At.own' (i := 10) rfl rfl | exact At.own' (i := 11) rfl rfl | exact At.own' (i := 12) rfl rfl) rfl TL.fin⟩, trivial⟩ ?_
                    refine DH.k1 (by kernel_rfl) (by kernel_rfl) (by kernel_rfl) (by kernel_rfl) (HBK.mk (h := 7) [0, 1, 2, 5, 9, 12] [(164, _, some 6)] rfl rfl rfl ⟨⟨rfl, rfl, rfl⟩, trivial⟩ (by kernel_rfl) (fun ext => ?_))
                    refine TL.buildSlice hF rfl (cs := #[.slice sa q sc]) (e := 24) (fun w => by kernel_rfl) rfl (fun b165 => ?_)
                    refine TL.finK ⟨⟨_, rfl, _, _, [(2, _, none)], rfl, rfl, ⟨⟨rfl, by kernel_rfl⟩, trivial⟩, fun ext => TL.load hF rfl (by first | exact At.own' (i := 0) rfl rfl | exact At.own' (i := 1) rfl rfl | exact At.own' (i := 2) rfl rfl | exact At.own' (i := 3) rfl rfl | exact At.own' (i := 4) rfl rfl | exact At.own' (i := 5) rfl rfl | exact At.own' (i := 6) rfl rfl | exact At.own' (i := 7) rfl rfl | exact At.own' (i := 8) rfl rfl | exact At.own' (i := 9) rfl rfl | exact At.own' (i := 10) rfl rfl | exact At.own' (i := 11) rfl rfl | exact At.own' (i := 12) rfl rfl) rfl TL.fin⟩, ⟨_, rfl, _, _, [(2, _, none)], rfl, rfl, ⟨⟨rfl, by kernel_rfl⟩, trivial⟩, fun ext => TL.load hF rfl (by first | exact At.own' (i := 0) rfl rfl | exact At.own' (i := 1) rfl rfl | exact At.own' (i := 2) rfl rfl | exact At.own' (i := 3) rfl rfl | exact At.own' (i := 4) rfl rfl | exact At.own' (i := 5) rfl rfl | exact At.own' (i := 6) rfl rfl | exact At.own' (i := 7) rfl rfl | exact At.own' (i := 8) rfl rfl | exact At.own' (i := 9) rfl rfl | exact At.own' (i := 10) rfl rfl | exact At.own' (i := 11) rfl rfl | exact At.own' (i := 12) rfl rfl) rfl TL.fin⟩, ⟨_, rfl, _, _, [(2, _, none)], rfl, rfl, ⟨⟨rfl, by kernel_rfl⟩, trivial⟩, fun ext => TL.load hF rfl (by first | exact At.own' (i := 0) rfl rfl | exact At.own' (i := 1) rfl rfl | exact At.own' (i := 2) rfl rfl | exact At.own' (i := 3) rfl rfl | exact At.own' (i := 4) rfl rfl | exact At.own' (i := 5) rfl rfl | exact At.own' (i := 6) rfl rfl | exact At.own' (i := 7) rfl rfl | exact At.own' (i := 8) rfl rfl | exact At.own' (i := 9) rfl rfl | exact At.own' (i := 10) rfl rfl | exact At.own' (i := 11) rfl rfl | exact At.own' (i := 12) rfl rfl) rfl TL.fin⟩, ⟨_, rfl, _, _, [(162, _, some 4)], rfl, rfl, ⟨⟨rfl, rfl, rfl⟩, trivial⟩, fun ext => TL.load hF rfl (by first | exact At.own' (i := 0) rfl rfl | exact At.own' (i := 1) rfl rfl | exact At.own' (i := 2) rfl rfl | exact At.own' (i := 3) rfl rfl | exact At.own' (i := 4) rfl rfl | exact At.own' (i := 5) rfl rfl | exact At.own' (i := 6) rfl rfl | exact At.own' (i := 7) rfl rfl | exact At.own' (i := 8) rfl rfl | exact At.own' (i := 9) rfl rfl | exact At.own' (i := 10) rfl rfl | exact At.own' (i := 11) rfl rfl | exact At.own' (i := 12) rfl rfl) rfl TL.fin⟩, ⟨_, rfl, _, _, [(2, _, none)], rfl, rfl, ⟨⟨rfl, by kernel_rfl⟩, trivial⟩, fun ext => TL.load hF rfl (by first | exact At.own' (i := 0) rfl rfl | exact At.own' (i := 1) rfl rfl | exact At.own' (i := 2) rfl rfl | exact At.own' (i := 3) rfl rfl | exact At.own' (i := 4) rfl rfl | exact At.own' (i := 5) rfl rfl | exact At.own' (i := 6) rfl rfl | exact At.own' (i := 7) rfl rfl | exact At.own' (i := 8) rfl rfl | exact At.own' (i := 9) rfl rfl | exact At.own' (i := 10) rfl rfl | exact At.own' (i := 11) rfl rfl | exact At.own' (i := 12) rfl rfl) rfl TL.fin⟩, ⟨_, rfl, _, _, [(169, _, some 11)], rfl, rfl, ⟨⟨rfl, rfl, rfl⟩, trivial⟩, fun ext => TL.load hF rfl (by first | exact At.own' (i := 0) rfl rfl | exact At.own' (i := 1) rfl rfl | exact At.own' (i := 2) rfl rfl | exact At.own' (i := 3) rfl rfl | exact At.own' (i := 4) rfl rfl | exact At.own' (i := 5) rfl rfl | exact At.own' (i := 6) rfl rfl | exact At.own' (i := 7) rfl rfl | exact At.own' (i := 8) rfl rfl | exact At.own' (i := 9) rfl rfl | exact At.own' (i := 10) rfl rfl | exact At.own' (i := 11) rfl rfl | exact At.own' (i := 12) rfl rfl) rfl TL.fin⟩, trivial⟩ ?_
                    refine DH.k1 (by kernel_rfl) (by kernel_rfl) (by kernel_rfl) (by kernel_rfl) (HBK.mk (h := 8) [0, 1, 9, 12] [(163, _, some 5), (165, _, some 7)] rfl rfl rfl ⟨⟨rfl, rfl, rfl⟩, ⟨rfl, rfl, rfl⟩, trivial⟩ (by kernel_rfl) (fun ext => ?_))
                    first | refine TL.append hF 3 rfl rfl rfl hao (row_own (cs := [.slice sa q sc]) (e := 24) (by simp)).src rfl rfl (by simp [Value.oneCell']) (by omega) (by omega) rfl (fun a1 cap1 seg1 ho1 => ?_) | refine TL.append hF 4 rfl rfl rfl hao (row_own (cs := [.slice sa q sc]) (e := 24) (by simp)).src rfl rfl (by simp [Value.oneCell']) (by omega) (by omega) rfl (fun a1 cap1 seg1 ho1 => ?_)
                    refine TL.finK ⟨⟨_, rfl, _, _, [(2, _, none)], rfl, rfl, ⟨⟨rfl, by kernel_rfl⟩, trivial⟩, fun ext => TL.load hF rfl (by first | exact At.own' (i := 0) rfl rfl | exact At.own' (i := 1) rfl rfl | exact At.own' (i := 2) rfl rfl | exact At.own' (i := 3) rfl rfl | exact At.own' (i := 4) rfl rfl | exact At.own' (i := 5) rfl rfl | exact At.own' (i := 6) rfl rfl | exact At.own' (i := 7) rfl rfl | exact At.own' (i := 8) rfl rfl | exact At.own' (i := 9) rfl rfl | exact At.own' (i := 10) rfl rfl | exact At.own' (i := 11) rfl rfl | exact At.own' (i := 12) rfl rfl) rfl TL.fin⟩, ⟨_, rfl, _, _, [(2, _, none)], rfl, rfl, ⟨⟨rfl, by kernel_rfl⟩, trivial⟩, fun ext => TL.load hF rfl (by first | exact At.own' (i := 0) rfl rfl | exact At.own' (i := 1) rfl rfl | exact At.own' (i := 2) rfl rfl | exact At.own' (i := 3) rfl rfl | exact At.own' (i := 4) rfl rfl | exact At.own' (i := 5) rfl rfl | exact At.own' (i := 6) rfl rfl | exact At.own' (i := 7) rfl rfl | exact At.own' (i := 8) rfl rfl | exact At.own' (i := 9) rfl rfl | exact At.own' (i := 10) rfl rfl | exact At.own' (i := 11) rfl rfl | exact At.own' (i := 12) rfl rfl) rfl TL.fin⟩, ⟨_, rfl, _, _, [(2, _, none)], rfl, rfl, ⟨⟨rfl, by kernel_rfl⟩, trivial⟩, fun ext => TL.load hF rfl (by first | exact At.own' (i := 0) rfl rfl | exact At.own' (i := 1) rfl rfl | exact At.own' (i := 2) rfl rfl | exact At.own' (i := 3) rfl rfl | exact At.own' (i := 4) rfl rfl | exact At.own' (i := 5) rfl rfl | exact At.own' (i := 6) rfl rfl | exact At.own' (i := 7) rfl rfl | exact At.own' (i := 8) rfl rfl | exact At.own' (i := 9) rfl rfl | exact At.own' (i := 10) rfl rfl | exact At.own' (i := 11) rfl rfl | exact At.own' (i := 12) rfl rfl) rfl TL.fin⟩, ⟨_, rfl, _, _, [(169, _, some 11)], rfl, rfl, ⟨⟨rfl, rfl, rfl⟩, trivial⟩, fun ext => TL.load hF rfl (by first | exact At.own' (i := 0) rfl rfl | exact At.own' (i := 1) rfl rfl | exact At.own' (i := 2) rfl rfl | exact At.own' (i := 3) rfl rfl | exact At.own' (i := 4) rfl rfl | exact At.own' (i := 5) rfl rfl | exact At.own' (i := 6) rfl rfl | exact At.own' (i := 7) rfl rfl | exact At.own' (i := 8) rfl rfl | exact At.own' (i := 9) rfl rfl | exact At.own' (i := 10) rfl rfl | exact At.own' (i := 11) rfl rfl | exact At.own' (i := 12) rfl rfl) rfl TL.fin⟩, trivial⟩ ?_
                    refine DH.k1 (by kernel_rfl) (by kernel_rfl) (by kernel_rfl) (by kernel_rfl) (HBK.mk (h := 15) [0, 1] [(170, _, some 12), (172, _, some 14)] rfl rfl rfl ⟨⟨rfl, rfl, rfl⟩, ⟨rfl, rfl, rfl⟩, trivial⟩ (by kernel_rfl) (fun ext => ?_))
                    refine TL.append hF 5 rfl rfl rfl hwo (row_own (cs := [.slice wa pl wc]) (e := 24) (by simp)).src rfl rfl (by simp [Value.oneCell']) (by omega) (by omega) rfl (fun a2 cap2 seg2 ho2 => ?_)
                    refine TL.finK ⟨⟨_, rfl, _, _, [(2, _, none)], rfl, rfl, ⟨⟨rfl, by kernel_rfl⟩, trivial⟩, fun ext => TL.load hF rfl (by first | exact At.own' (i := 0) rfl rfl | exact At.own' (i := 1) rfl rfl | exact At.own' (i := 2) rfl rfl | exact At.own' (i := 3) rfl rfl | exact At.own' (i := 4) rfl rfl | exact At.own' (i := 5) rfl rfl | exact At.own' (i := 6) rfl rfl | exact At.own' (i := 7) rfl rfl | exact At.own' (i := 8) rfl rfl | exact At.own' (i := 9) rfl rfl | exact At.own' (i := 10) rfl rfl | exact At.own' (i := 11) rfl rfl | exact At.own' (i := 12) rfl rfl) rfl TL.fin⟩, ⟨_, rfl, _, _, [(2, _, none)], rfl, rfl, ⟨⟨rfl, by kernel_rfl⟩, trivial⟩, fun ext => TL.load hF rfl (by first | exact At.own' (i := 0) rfl rfl | exact At.own' (i := 1) rfl rfl | exact At.own' (i := 2) rfl rfl | exact At.own' (i := 3) rfl rfl | exact At.own' (i := 4) rfl rfl | exact At.own' (i := 5) rfl rfl | exact At.own' (i := 6) rfl rfl | exact At.own' (i := 7) rfl rfl | exact At.own' (i := 8) rfl rfl | exact At.own' (i := 9) rfl rfl | exact At.own' (i := 10) rfl rfl | exact At.own' (i := 11) rfl rfl | exact At.own' (i := 12) rfl rfl) rfl TL.fin⟩, trivial⟩ ?_
                    refine DH.pure (i := 16) [(158, _, some 0)] rfl rfl rfl rfl ⟨⟨rfl, rfl, rfl⟩, trivial⟩ (fun _ ext => TL.nilCheck hF rfl rfl TL.fin) ?_
                    refine DH.pure (i := 17) [(174, _, some 16)] rfl rfl rfl rfl ⟨⟨rfl, rfl, rfl⟩, trivial⟩ (fun _ ext => TL.fieldAddr hF rfl rfl TL.fin) ?_
                    refine DH.k1 (by kernel_rfl) (by kernel_rfl) (by kernel_rfl) (by kernel_rfl) (HBK.mk (h := 18) [1] [(175, _, some 17), (166, _, some 8)] rfl rfl rfl ⟨⟨rfl, rfl, rfl⟩, ⟨rfl, rfl, rfl⟩, trivial⟩ (by kernel_rfl) (fun ext => ?_))
                    refine TL.storeI hF 2 rfl rfl rfl rfl (by simp) ?_
                    refine TL.finKN ⟨⟨_, rfl, _, _, [(2, _, none)], rfl, rfl, ⟨⟨rfl, by kernel_rfl⟩, trivial⟩, fun ext => TL.load hF rfl (by first | exact At.own' (i := 0) rfl rfl | exact At.own' (i := 1) rfl rfl | exact At.own' (i := 2) rfl rfl | exact At.own' (i := 3) rfl rfl | exact At.own' (i := 4) rfl rfl | exact At.own' (i := 5) rfl rfl | exact At.own' (i := 6) rfl rfl | exact At.own' (i := 7) rfl rfl | exact At.own' (i := 8) rfl rfl | exact At.own' (i := 9) rfl rfl | exact At.own' (i := 10) rfl rfl | exact At.own' (i := 11) rfl rfl | exact At.own' (i := 12) rfl rfl) rfl TL.fin⟩, trivial⟩ ?_
                    refine DH.done [(175, _), (174, _), (173, _), (166, _), (165, _), (172, _), (171, _), (170, _), (169, _), (168, _), (167, _), (164, _), (163, _), (162, _), (161, _), (160, _), (159, _), (158, _)] [_, _, _] (by kernel_rfl) (by kernel_rfl) (by kernel_rfl) (by kernel_rfl) rfl rfl ?_
                    refine TL.nilCheck hF rfl rfl ?_
                    refine TL.fieldAddr hF rfl rfl ?_
                    refine TL.storeI hF 2 rfl rfl rfl rfl (by simp) ?_
                    refine TL.nil ?_
                    refine TQ.block_n ?_
                    refine TQ.then_n ?_
                    refine T.region ?_
                    refine TL.add hF rfl rfl (by omega) (by omega) rfl ?_
                    refine TL.move hF rfl rfl ?_
                    refine TL.nil ?_
                    refine TQ.pick [2, 8, 9, 10, 11, 3, 4, 5, 6, 7] [_, _, _, _, _, _, _, _, _, _, _, _] rfl rfl rfl ?_
                    have hr2 : ROk l pick all ⟨r.k + 1, { i.x with av := .slice a1 (r.ao.length + 1) cap1, wv := .slice a2 (r.wo.length + 1) cap2 }, i.s, r.ds ++ i.acc, r.many + i.cnt, r.ao ++ [(.slice sa q sc, (all[r.k]'(by omega)).asks.map fun a => i.s.W a.toNat, sg)], r.wo ++ [(.slice wa pl wc, eagerOf l i.s.W, wsg)], seg1, seg2, sg :: wsg :: r.ins, mk :: i.ms, r.Ws ++ [i.s.W]⟩ := {
                      k := by simp only; omega
                      e := ⟨hE6.map, hE6.zero, hE6.done, hE6.word⟩
                      a := hr.a.snoc ho1 (by rw [List.length_map, ← hql]; exact hos)
                      w := hr.w.snoc ho2 (by
                        have hlw : (eagerOf l i.s.W).length = pl := by have := how.len; rw [hpl3] at this; simpa [eagerOf] using this
                        rw [hlw, eagerOf, ← hpl3]; exact how)
                      ia := fun t ht => by
                        rcases List.mem_append.1 ht with h | h
                        · exact List.mem_cons_of_mem _ (List.mem_cons_of_mem _ (hr.ia t h))
                        · rw [List.mem_singleton.1 h]; exact List.mem_cons_self
                      iw := fun t ht => by
                        rcases List.mem_append.1 ht with h | h
                        · exact List.mem_cons_of_mem _ (List.mem_cons_of_mem _ (hr.iw t h))
                        · rw [List.mem_singleton.1 h]; exact List.mem_cons_of_mem _ List.mem_cons_self
                      L := fun j hj => by have := hL4.L j hj; simp only; omega
                      used := hL4.used
                      at' := hat4
                      many := by simp only; omega
                      dn := hdn4
                      al := by simp only [List.length_append, List.length_singleton]; omega
                      wl := by simp only [List.length_append, List.length_singleton]; omega
                      spec := by rw [hr.spec, allS_drop hkl, hins]; simp [List.append_assoc, Nat.add_assoc]
                      ws := by simp only [List.length_append, List.length_singleton, hr.ws]
                      asked := by rw [askedOf_snoc hkl hr.ws, List.map_append, hr.asked]; rfl
                      eager := by rw [List.map_append, List.map_append, hr.eager]; rfl }
                    refine TQ.hperm (engH c l.length pick.length { i.x with av := .slice a1 (r.ao.length + 1) cap1, wv := .slice a2 (r.wo.length + 1) cap2 } i.s (r.ds ++ i.acc).length (r.many + i.cnt) ([(b2, Obj.cells #[ptr c.gb] 89 (0, 0))] :: (marksH (mk :: i.ms) ++ seg1 :: seg2 :: ((sg :: wsg :: r.ins) ++ η)))) (List.Perm.append_left [_, _, _, _, _, _] (mid (marksH (mk :: i.ms)) [seg1, seg2, sg, wsg] (r.ins ++ η))) ?_
                    exact TQ.roundD ⟨r.k + 1, { i.x with av := .slice a1 (r.ao.length + 1) cap1, wv := .slice a2 (r.wo.length + 1) cap2 }, i.s, r.ds ++ i.acc, r.many + i.cnt, r.ao ++ [(.slice sa q sc, (all[r.k]'(by omega)).asks.map fun a => i.s.W a.toNat, sg)], r.wo ++ [(.slice wa pl wc, eagerOf l i.s.W, wsg)], seg1, seg2, sg :: wsg :: r.ins, mk :: i.ms, r.Ws ++ [i.s.W]⟩ hr2 (by simp only; omega) ⟨rfl, rfl, rfl, rfl, rfl, trivial⟩ rfl rfl
            · refine T.skip ?_
              refine TQ.then_n ?_
              have hrne : (readyS l (wantS l (all[r.k]'(by omega)).asks) i.s r.k).length ≠ 0 := by have h : ¬ (((readyS l (wantS l (all[r.k]'(by omega)).asks) i.s r.k).length : Nat) : Int) = 0 := ht113; omega
              have hrl : (readyS l (wantS l (all[r.k]'(by omega)).asks) i.s r.k).length ≤ l.length := by have := List.length_filter_le (rdyB l (wantS l (all[r.k]'(by omega)).asks) i.s r.k) (List.range l.length); rw [List.length_range] at this; exact this
              have hun4 := ready_unl hrne
              have hun5 := hL4.un
              generalize hjn : nextS pick i.s (readyS l (wantS l (all[r.k]'(by omega)).asks) i.s r.k) = jn
              have hjm : jn ∈ (readyS l (wantS l (all[r.k]'(by omega)).asks) i.s r.k) := hjn ▸ nextS_mem hrne
              obtain ⟨hjl, hjr⟩ := ready_mem'.1 hjm
              have hj0 : (nd l jn).op ≠ 0 := (wantS_iff.1 (rdy_iff.1 hjr).1).1
              obtain ⟨pv, hpv, hwp⟩ : ∃ pv : Nat, (if pick.length = 0 then (0 : Int) else pick.getD (i.x.at' % pick.length) 0) = (pv : Int) ∧ whichS pick i.s.used (readyS l (wantS l (all[r.k]'(by omega)).asks) i.s r.k).length = pv % (readyS l (wantS l (all[r.k]'(by omega)).asks) i.s r.k).length := by
                unfold whichS
                by_cases h0 : pick.length = 0
                · exact ⟨0, by rw [if_pos h0]; rfl, by rw [if_pos h0, Nat.zero_mod]⟩
                · have hb := Nat.mod_lt i.x.at' (Nat.pos_of_ne_zero h0)
                  have hp0 : 0 ≤ pick.getD (i.x.at' % pick.length) 0 := by
                    rw [List.getD_eq_getElem?_getD, List.getElem?_eq_getElem hb]; exact hpk _ (List.getElem_mem hb)
                  exact ⟨(pick.getD (i.x.at' % pick.length) 0).toNat, by rw [if_neg h0, Int.toNat_of_nonneg hp0], by rw [if_neg h0, hL4.used h0]⟩
              have hpm := Nat.mod_lt pv (Nat.pos_of_ne_zero hrne)
              have hjv : jn = (readyS l (wantS l (all[r.k]'(by omega)).asks) i.s r.k)[pv % (readyS l (wantS l (all[r.k]'(by omega)).asks) i.s r.k).length]'hpm := by rw [← hjn]; unfold nextS; rw [hwp, List.getD_eq_getElem?_getD, List.getElem?_eq_getElem hpm]; rfl
              have hrow4 : ∀ η', seg ∈ η' → Row S w0 η' a (nats (readyS l (wantS l (all[r.k]'(by omega)).asks) i.s r.k)) := fun η' h => ho0.row h
              refine T.pick [6, 7, 8, 9, 10, 1, 5, 11, 12, 13, 0] [_, _, _, _, _, _, _, _, _, _, _, _, _, _] rfl rfl rfl ?_
              refine T.drawH 10 mixed ?_
              refine DH.pure (i := 0) [(15, _, none)] rfl rfl rfl rfl ⟨⟨rfl, by kernel_rfl⟩, trivial⟩ (fun _ ext => TL.move hF rfl rfl TL.fin) ?_
              refine DH.read (i := 1) [(16, _, none)] rfl rfl rfl rfl ⟨⟨rfl, by kernel_rfl⟩, trivial⟩ (fun ext => TL.load hF rfl (by first | exact At.own' (i := 0) rfl rfl | exact At.own' (i := 1) rfl rfl | exact At.own' (i := 2) rfl rfl | exact At.own' (i := 3) rfl rfl | exact At.own' (i := 4) rfl rfl | exact At.own' (i := 5) rfl rfl | exact At.own' (i := 6) rfl rfl | exact At.own' (i := 7) rfl rfl | exact At.own' (i := 8) rfl rfl | exact At.own' (i := 9) rfl rfl | exact At.own' (i := 10) rfl rfl | exact At.own' (i := 11) rfl rfl | exact At.own' (i := 12) rfl rfl) rfl TL.fin) ?_
              refine DH.read (i := 2) [(2, _, none)] rfl rfl rfl rfl ⟨⟨rfl, by kernel_rfl⟩, trivial⟩ (fun ext => TL.load hF rfl (by first | exact At.own' (i := 0) rfl rfl | exact At.own' (i := 1) rfl rfl | exact At.own' (i := 2) rfl rfl | exact At.own' (i := 3) rfl rfl | exact At.own' (i := 4) rfl rfl | exact At.own' (i := 5) rfl rfl | exact At.own' (i := 6) rfl rfl | exact At.own' (i := 7) rfl rfl | exact At.own' (i := 8) rfl rfl | exact At.own' (i := 9) rfl rfl | exact At.own' (i := 10) rfl rfl | exact At.own' (i := 11) rfl rfl | exact At.own' (i := 12) rfl rfl) rfl TL.fin) ?_
              refine DH.read (i := 4) [(16, _, none)] rfl rfl rfl rfl ⟨⟨rfl, by kernel_rfl⟩, trivial⟩ (fun ext => TL.load hF rfl (by first | exact At.own' (i := 0) rfl rfl | exact At.own' (i := 1) rfl rfl | exact At.own' (i := 2) rfl rfl | exact At.own' (i := 3) rfl rfl | exact At.own' (i := 4) rfl rfl | exact At.own' (i := 5) rfl rfl | exact At.own' (i := 6) rfl rfl | exact At.own' (i := 7) rfl rfl | exact At.own' (i := 8) rfl rfl | exact At.own' (i := 9) rfl rfl | exact At.own' (i := 10) rfl rfl | exact At.own' (i := 11) rfl rfl | exact At.own' (i := 12) rfl rfl) rfl TL.fin) ?_
              refine DH.pure (i := 5) [(118, _, some 4)] rfl rfl rfl rfl ⟨⟨rfl, rfl, rfl⟩, trivial⟩ (fun _ ext => TL.len hF rfl rfl TL.fin) ?_
              refine DH.pure (i := 9) [(7, _, none)] rfl rfl rfl rfl ⟨⟨rfl, by kernel_rfl⟩, trivial⟩ (fun _ ext => TL.move hF rfl rfl TL.fin) ?_
              refine DH.k1 (by kernel_rfl) (by kernel_rfl) (by kernel_rfl) (by kernel_rfl) (HBK.mk (h := 3) [1, 4] [(116, _, some 2)] rfl rfl rfl ⟨⟨rfl, rfl, rfl⟩, trivial⟩ (by kernel_rfl) (fun ext => ?_))
              refine TL.call hF (pick_fn (n := l.length) hp hpl (by omega)) rfl rfl ?_
              rintro _ _ ⟨rfl, rfl⟩
              rw [hpv]
              refine TL.finK ⟨⟨_, rfl, _, _, [(16, _, none)], rfl, rfl, ⟨⟨rfl, by kernel_rfl⟩, trivial⟩, fun ext => TL.load hF rfl (by first | exact At.own' (i := 0) rfl rfl | exact At.own' (i := 1) rfl rfl | exact At.own' (i := 2) rfl rfl | exact At.own' (i := 3) rfl rfl | exact At.own' (i := 4) rfl rfl | exact At.own' (i := 5) rfl rfl | exact At.own' (i := 6) rfl rfl | exact At.own' (i := 7) rfl rfl | exact At.own' (i := 8) rfl rfl | exact At.own' (i := 9) rfl rfl | exact At.own' (i := 10) rfl rfl | exact At.own' (i := 11) rfl rfl | exact At.own' (i := 12) rfl rfl) rfl TL.fin⟩, ⟨_, rfl, _, _, [(16, _, none)], rfl, rfl, ⟨⟨rfl, by kernel_rfl⟩, trivial⟩, fun ext => TL.load hF rfl (by first | exact At.own' (i := 0) rfl rfl | exact At.own' (i := 1) rfl rfl | exact At.own' (i := 2) rfl rfl | exact At.own' (i := 3) rfl rfl | exact At.own' (i := 4) rfl rfl | exact At.own' (i := 5) rfl rfl | exact At.own' (i := 6) rfl rfl | exact At.own' (i := 7) rfl rfl | exact At.own' (i := 8) rfl rfl | exact At.own' (i := 9) rfl rfl | exact At.own' (i := 10) rfl rfl | exact At.own' (i := 11) rfl rfl | exact At.own' (i := 12) rfl rfl) rfl TL.fin⟩, trivial⟩ ?_
              refine DH.pure (i := 6) [(117, _, some 3), (119, _, some 5)] rfl rfl rfl rfl ⟨⟨rfl, rfl, rfl⟩, ⟨rfl, rfl, rfl⟩, trivial⟩ (fun _ ext => TL.remN hF (a := pv) (b := (readyS l (wantS l (all[r.k]'(by omega)).asks) i.s r.k).length) rfl rfl (Nat.pos_of_ne_zero hrne) rfl TL.fin) ?_
              refine DH.pure (i := 7) [(115, _, some 1), (120, _, some 6)] rfl rfl rfl rfl ⟨⟨rfl, rfl, rfl⟩, ⟨rfl, rfl, rfl⟩, trivial⟩ (fun _ ext => TL.indexAddr hF rfl rfl ((hrow4 [seg] List.mem_cons_self).adi (i := pv % (readyS l (wantS l (all[r.k]'(by omega)).asks) i.s r.k).length) (by rw [List.length_map]; exact hpm)) (by omega) (by omega) rfl TL.fin) ?_
              refine DH.read (i := 8) [(121, _, some 7)] rfl rfl rfl rfl ⟨⟨rfl, rfl, rfl⟩, trivial⟩ (fun ext => TL.load hF rfl (v := .int .i64 (jn : Int)) (by rw [Int.toNat_natCast, Nat.mul_one]; exact (hrow4 _ (upc _ (upc _ (upc _ (upc _ (upc _ List.mem_cons_self)))))).cell _ _ (by rw [List.getElem?_map, List.getElem?_eq_getElem hpm, ← hjv]; rfl)) rfl TL.fin) ?_
              refine DH.done [(122, _), (121, _), (120, _), (117, _), (123, _), (119, _), (118, _), (116, _), (115, _), (114, _)] [_] (by kernel_rfl) (by kernel_rfl) (by kernel_rfl) (by kernel_rfl) rfl rfl ?_
              refine TL.call hF (look_fn (c := c) (pl := pick.length) (x := { i.x with at' := if pick.length = 0 then i.x.at' else i.x.at' + 1 }) (s := i.s) (ds := r.ds ++ i.acc) (now := r.k) hg hn hok ⟨hL4.e.map, hL4.e.zero, hL4.e.done, hL4.e.word⟩ hjl hj0 (by omega) (by omega)) rfl rfl ?_
              rintro _ _ ⟨es5, clock5, da5, dc5, dg5, rfl, hE5⟩
              refine TL.nil ?_
              refine TQ.block_n ?_
              refine TQ.pick [0, 1, 2, 3, 4, 7, 8, 9, 10] [_, _, _, _, _, _, _, _, _, _, _] rfl rfl rfl ?_
              have hL5 := hL4.step hrne hjn rfl hE5 mk
              refine TQ.roundD _ hL5 (by simp only; omega) ⟨rfl, rfl, rfl, rfl, rfl, rfl, rfl, rfl, rfl, trivial⟩ ?_ rfl
              simp only [List.append_assoc]; rfl
          · rintro _ _ _ h; exact h.elim
        · refine TL.extract hF rfl rfl rfl ?_
          refine TL.nil ?_
          refine TQ.then_n ?_
          refine T.seq ?_
          refine T.cond_t rfl rfl ?_
          refine T.skip ?_
          refine TQ.then_n ?_
          refine T.block ?_
          refine T.seq ?_
          refine T.region ?_
          refine TL.entry hF rfl List.mem_cons_self (upc _ List.mem_cons_self) hm2 hent70 rfl ?_
          refine TL.extract hF rfl rfl rfl ?_
          refine TL.extract hF rfl rfl rfl ?_
          refine TL.assign hF rfl rfl ?_
          refine TL.assign hF rfl rfl ?_
          refine TL.nil ?_
          refine TQ.then_n ?_
          refine T.seq ?_
          refine T.region ?_
          refine TL.move hF rfl rfl ?_
          refine TL.move hF rfl rfl ?_
          have hz := hsi.2 p70 hp70
          obtain ⟨pk, pv⟩ := p70
          simp only at hz hnd70
          obtain ⟨jn, rfl⟩ : ∃ jn : Nat, pk = (jn : Int) := ⟨pk.toNat, by omega⟩
          rw [Int.toNat_natCast] at hz
          have hjl : jn < l.length := by omega
          have hgm : mget (jn : Int) m2 = some pv := mget_of_mem hm2.nd hp70
          have hWd : (afterD r.s m2 done r.k).W jn = r.s.W jn := by unfold afterD; simp only; rw [if_neg hnd70]
          refine TL.callV hF (word_fn (c := c) (l := l) (pl := pick.length) (dn := r.ds.length) (many := r.many) hE hjl (upc _ (upc _ (upc _ (upc _ (upc _ (upc _ (upc _ (upc _ List.mem_cons_self)))))))) (upc _ (upc _ (upc _ List.mem_cons_self))) (upc _ (upc _ (upc _ (upc _ List.mem_cons_self))))) rfl rfl ?_
          rw [hWd]
          refine TL.move hF rfl rfl ?_
          refine TL.bin hF rfl rfl rfl rfl ?_
          refine TL.nil ?_
          refine TQ.then_n ?_
          first | refine T.cond_d rfl (fun ht79 => ?_) (fun ht79 => ?_) | refine T.cond _ rfl (fun ht79 => ?_) (fun ht79 => ?_)
          · obtain ⟨m, hm, hw⟩ := hE.map
            refine T.drawH 16 mixed ?_
            refine DH.read (i := 0) [(2, _, none)] rfl rfl rfl rfl ⟨⟨rfl, by kernel_rfl⟩, trivial⟩ (fun ext => TL.load hF rfl (by first | exact At.own' (i := 0) rfl rfl | exact At.own' (i := 1) rfl rfl | exact At.own' (i := 2) rfl rfl | exact At.own' (i := 3) rfl rfl | exact At.own' (i := 4) rfl rfl | exact At.own' (i := 5) rfl rfl | exact At.own' (i := 6) rfl rfl | exact At.own' (i := 7) rfl rfl | exact At.own' (i := 8) rfl rfl | exact At.own' (i := 9) rfl rfl | exact At.own' (i := 10) rfl rfl | exact At.own' (i := 11) rfl rfl | exact At.own' (i := 12) rfl rfl) rfl TL.fin) ?_
            refine DH.pure (i := 1) [(80, _, some 0)] rfl rfl rfl rfl ⟨⟨rfl, rfl, rfl⟩, trivial⟩ (fun _ ext => TL.nilCheck hF rfl rfl TL.fin) ?_
            refine DH.pure (i := 2) [(81, _, some 1)] rfl rfl rfl rfl ⟨⟨rfl, rfl, rfl⟩, trivial⟩ (fun _ ext => TL.fieldAddr hF rfl rfl TL.fin) ?_
            refine DH.read (i := 3) [(82, _, some 2)] rfl rfl rfl rfl ⟨⟨rfl, rfl, rfl⟩, trivial⟩ (fun ext => TL.load hF rfl (by first | exact At.own' (i := 0) rfl rfl | exact At.own' (i := 1) rfl rfl | exact At.own' (i := 2) rfl rfl | exact At.own' (i := 3) rfl rfl | exact At.own' (i := 4) rfl rfl | exact At.own' (i := 5) rfl rfl | exact At.own' (i := 6) rfl rfl | exact At.own' (i := 7) rfl rfl | exact At.own' (i := 8) rfl rfl | exact At.own' (i := 9) rfl rfl | exact At.own' (i := 10) rfl rfl | exact At.own' (i := 11) rfl rfl | exact At.own' (i := 12) rfl rfl) rfl TL.fin) ?_
            refine DH.pure (i := 4) [(12, _, none)] rfl rfl rfl rfl ⟨⟨rfl, by kernel_rfl⟩, trivial⟩ (fun _ ext => TL.move hF rfl rfl TL.fin) ?_
            refine DH.pure (i := 5) [(84, _, some 4)] rfl rfl rfl rfl ⟨⟨rfl, rfl, rfl⟩, trivial⟩ (fun _ ext => TL.build hF rfl (r := KS (jn : Int)) (fun w => by kernel_rfl) rfl TL.fin) ?_
            refine DH.read (i := 6) [(2, _, none)] rfl rfl rfl rfl ⟨⟨rfl, by kernel_rfl⟩, trivial⟩ (fun ext => TL.load hF rfl (by first | exact At.own' (i := 0) rfl rfl | exact At.own' (i := 1) rfl rfl | exact At.own' (i := 2) rfl rfl | exact At.own' (i := 3) rfl rfl | exact At.own' (i := 4) rfl rfl | exact At.own' (i := 5) rfl rfl | exact At.own' (i := 6) rfl rfl | exact At.own' (i := 7) rfl rfl | exact At.own' (i := 8) rfl rfl | exact At.own' (i := 9) rfl rfl | exact At.own' (i := 10) rfl rfl | exact At.own' (i := 11) rfl rfl | exact At.own' (i := 12) rfl rfl) rfl TL.fin) ?_
            refine DH.pure (i := 7) [(86, _, some 6)] rfl rfl rfl rfl ⟨⟨rfl, rfl, rfl⟩, trivial⟩ (fun _ ext => TL.nilCheck hF rfl rfl TL.fin) ?_
            refine DH.pure (i := 8) [(87, _, some 7)] rfl rfl rfl rfl ⟨⟨rfl, rfl, rfl⟩, trivial⟩ (fun _ ext => TL.fieldAddr hF rfl rfl TL.fin) ?_
            refine DH.read (i := 9) [(88, _, some 8)] rfl rfl rfl rfl ⟨⟨rfl, rfl, rfl⟩, trivial⟩ (fun ext => TL.load hF rfl (by first | exact At.own' (i := 0) rfl rfl | exact At.own' (i := 1) rfl rfl | exact At.own' (i := 2) rfl rfl | exact At.own' (i := 3) rfl rfl | exact At.own' (i := 4) rfl rfl | exact At.own' (i := 5) rfl rfl | exact At.own' (i := 6) rfl rfl | exact At.own' (i := 7) rfl rfl | exact At.own' (i := 8) rfl rfl | exact At.own' (i := 9) rfl rfl | exact At.own' (i := 10) rfl rfl | exact At.own' (i := 11) rfl rfl | exact At.own' (i := 12) rfl rfl) rfl TL.fin) ?_
            refine DH.pure (i := 10) [(12, _, none)] rfl rfl rfl rfl ⟨⟨rfl, by kernel_rfl⟩, trivial⟩ (fun _ ext => TL.move hF rfl rfl TL.fin) ?_
            refine DH.pure (i := 11) [(13, _, none)] rfl rfl rfl rfl ⟨⟨rfl, by kernel_rfl⟩, trivial⟩ (fun _ ext => TL.move hF rfl rfl TL.fin) ?_
            refine DH.pure (i := 12) [(7, _, none)] rfl rfl rfl rfl ⟨⟨rfl, by kernel_rfl⟩, trivial⟩ (fun _ ext => TL.move hF rfl rfl TL.fin) ?_
            refine DH.heavy 13 [(83, _, some 3), (85, _, some 5)] (by kernel_rfl) (by kernel_rfl) (by kernel_rfl) (by kernel_rfl) rfl rfl rfl rfl ⟨⟨rfl, rfl, rfl⟩, ⟨rfl, rfl, rfl⟩, trivial⟩ (by kernel_rfl) (fun ext => ?_)
            refine TL.mapEntry hF 4 (Value.int .i64) 0 (jn : Int) rfl rfl rfl rfl hm rfl (fun m93 es93 clock93 born93 u93 hor93 hput93 hm93 hent93 => ?_)
            refine TL.finD ?_
            refine DH.pure (i := 14) [(93, _, some 13)] rfl rfl rfl rfl ⟨⟨rfl, rfl, rfl⟩, trivial⟩ (fun _ ext => TL.extract hF rfl rfl rfl TL.fin) ?_
            refine DH.k1 (by kernel_rfl) (by kernel_rfl) (by kernel_rfl) (by kernel_rfl) (HBK.mk (h := 15) [] [(83, _, some 3), (94, _, some 14), (91, _, some 11)] rfl rfl rfl ⟨⟨rfl, rfl, rfl⟩, ⟨rfl, rfl, rfl⟩, ⟨rfl, rfl, rfl⟩, trivial⟩ (by kernel_rfl) (fun ext => ?_))
            refine TL.entryStore hF 4 (Value.int .i64) (jn : Int) pv rfl rfl rfl rfl hm93 hent93 (fun es21 hm21 => ?_)
            refine TL.finKN trivial ?_
            refine DH.done [(94, _), (93, _), (92, _), (91, _), (90, _), (89, _), (88, _), (87, _), (86, _), (85, _), (84, _), (83, _), (82, _), (81, _), (80, _)] [_, _] (by kernel_rfl) (by kernel_rfl) (by kernel_rfl) (by kernel_rfl) rfl rfl ?_
            refine TL.indexAddr hF rfl rfl ⟨_, rfl, rfl⟩ (by omega) (by omega) rfl ?_
            refine TL.storeI hF 6 rfl rfl rfl rfl (by simp [intC_len]; omega) ?_
            refine TL.nil ?_
            refine TQ.block_n ?_
            have hne : pv ≠ r.s.W jn := fun h => ht79 h.symm
            obtain ⟨hc1, hc2, _⟩ := afterD_cons (s := r.s) (m := m2) (done := done) (now := r.k) hgm
            rw [hput93] at hm21
            have hsub2 : ∀ z ∈ (jn : Int) :: done, z ∈ m2.map (·.1) := fun z hz2 => by
              rcases List.mem_cons.1 hz2 with rfl | hz2
              · exact List.mem_map.2 ⟨_, hp70, rfl⟩
              · exact hsub z hz2
            have hlt : done.length < m2.length := by
              have := (List.nodup_cons.2 ⟨hnd70, hnd⟩).length_le_of_subset (l₂ := m2.map (·.1)) (fun z hz2 => hsub2 z hz2)
              simp at this; omega
            refine TQ.round (seen70, (jn : Int) :: done, es21, clock93) ⟨hit70, List.nodup_cons.2 ⟨hnd70, hnd⟩, hsub2, hE.setIn hw hm21 hz.2.1 hz.2.2 hc1 rfl⟩ (by simp only [List.length_cons]; omega) ⟨rfl, rfl, rfl, rfl, rfl, rfl, rfl, rfl, trivial⟩ ?_
            have e1 := iseg_upd (b := c.ob) (n := l.length) (j := jn) (k := 0 + ((jn : Nat) : Int).toNat * 1) (f := (afterD r.s m2 done r.k).O) (v := (r.k : Int)) (by simp)
            rw [← hc2 hne] at e1
            exact congrArg (fun z : Seg => [(b69, Obj.mapIter (some b54) clock2 seen70 clock2)] :: [(b54, Obj.map es2 clock2)] :: [(b8, Obj.cells (all[r.k]'(by omega)).cells.toArray 50 (0, 0))] :: [(c.gb, Obj.cells (engV c l.length pick.length { r.x with es := es21, clock := clock93 } r.ds.length r.many) 88 (0, 0))] :: [(c.mb, Obj.map es21 clock93)] :: iseg c.lb l.length r.s.L :: z :: r.x.dg :: [(b2, Obj.cells #[ptr c.gb] 89 (0, 0))] :: (marksH r.ms ++ (r.ag :: r.wg :: (r.ins ++ η)))) e1
          · refine T.skip ?_
            refine TQ.block_n ?_
            have heq : pv = r.s.W jn := by have := Classical.not_not.1 ht79; omega
            have hsub2 : ∀ z ∈ (jn : Int) :: done, z ∈ m2.map (·.1) := fun z hz2 => by
              rcases List.mem_cons.1 hz2 with rfl | hz2
              · exact List.mem_map.2 ⟨_, hp70, rfl⟩
              · exact hsub z hz2
            have hlt : done.length < m2.length := by
              have := (List.nodup_cons.2 ⟨hnd70, hnd⟩).length_le_of_subset (l₂ := m2.map (·.1)) (fun z hz2 => hsub2 z hz2)
              simp at this; omega
            have hc3 := (afterD_cons (s := r.s) (m := m2) (done := done) (now := r.k) hgm).2.2 heq hnd70
            refine TQ.round (seen70, (jn : Int) :: done, es3, clock3) ⟨hit70, List.nodup_cons.2 ⟨hnd70, hnd⟩, hsub2, by simp only; rw [hc3]; exact hE⟩ (by simp only [List.length_cons]; omega) ⟨rfl, rfl, rfl, rfl, rfl, rfl, rfl, rfl, trivial⟩ ?_
            simp only; rw [hc3]; rfl
    · refine T.exit ?_
      refine TQ.then_x ?_
      refine TQ.then_x ?_
      refine TQ.block_x ?_
      refine TQ.normL ?_
      refine TQ.hperm (marksH r.ms ++ engH c l.length pick.length r.x r.s r.ds.length r.many ([(b2, Obj.cells #[ptr c.gb] 89 (0, 0))] :: r.ag :: r.wg :: (r.ins ++ η))) (mid (marksH r.ms) [_, _, _, _, _, _] (r.ag :: r.wg :: (r.ins ++ η))) ?_
      refine TQ.marks (.inl rfl) ?_ r.ms
      refine TQ.hsub (engH c l.length pick.length r.x r.s r.ds.length r.many (r.ag :: r.wg :: (r.ins ++ η))) (List.Sublist.cons_cons _ (List.Sublist.cons_cons _ (List.Sublist.cons_cons _ (List.Sublist.cons_cons _ (List.Sublist.cons_cons _ (List.sublist_cons_self _ _)))))) ?_
      refine TQ.retL0 [] [] rfl rfl rfl ?_
      exact ⟨r, hr, by omega, rfl⟩
end Go.Proofs.YtefkmiomldhmjaaDoor
/- The program's exported functions: runs. -/
namespace Go.Proofs.YtefkmiomldhmjaaDoor
open Go.Sl
variable {S : Nat → Prop} {w0 : World} {η : Heap}
theorem osl_cap {e : TypeId} {sz n c : Nat} {a : Option Addr} {xs : List Value} {seg : Seg} (h : OSl e sz (.slice a n c) n xs seg) : n ≤ c := by
  rcases h.2 with ⟨h1, h2, _⟩ | ⟨g, cap, cur, h1, _, h3, _⟩
  · omega
  · simp only [Value.slice.injEq] at h1; omega
theorem ROk.told {l : List NodeD} {pick : List Int} {all : List InstD} {r : RS} (h : ROk l pick all r) (hk : r.k = all.length) : toldS l all pick = (r.ds, r.many, r.Ws) ∧ r.ao.map (·.2.1) = askedOf all r.Ws := by
  have h1 := h.spec
  have h2 := h.asked
  rw [hk, List.drop_length] at h1
  rw [hk, List.take_length] at h2
  refine ⟨?_, h2⟩
  rw [h1]; simp [allS]
def eH (c : EC) (l : List NodeD) (pick : List Int) (r : RS) (η : Heap) : Heap := engH c l.length pick.length r.x r.s r.ds.length r.many (r.ag :: r.wg :: (r.ins ++ η))

theorem stop45 : StopC Tryd.prog 45 35 := ⟨⟨Tryd.f45, _, _, _, _, _, _, _, _, _, Tryd.func45, rfl, rfl, rfl⟩⟩
theorem stop48 : StopC Tryd.prog 48 35 := ⟨⟨Tryd.f48, _, _, _, _, _, _, _, _, _, Tryd.func48, rfl, rfl, rfl⟩⟩
theorem stop49 : StopC Tryd.prog 49 35 := ⟨⟨Tryd.f49, _, _, _, _, _, _, _, _, _, Tryd.func49, rfl, rfl, rfl⟩⟩
theorem stop50 : StopC Tryd.prog 50 35 := ⟨⟨Tryd.f50, _, _, _, _, _, _, _, _, _, Tryd.func50, rfl, rfl, rfl⟩⟩
set_option maxHeartbeats 2000000 in
theorem ran_fn {a : Option Addr} {l : List NodeD} {cn : Nat} {ia : Option Addr} {all : List InstD} {ic : Nat} {sa : Option Addr} {pick : List Int} {sc : Nat} (hg : Kinds S w0) (hn : Nodes S w0 [] a l) (hi : Insts S w0 [] ia all) (hp : Row S w0 [] sa (ints pick)) (hl : l.length < 2 ^ 63) (hfl : ∀ x ∈ l, x.fr.length < 2 ^ 63) (hal : all.length < 2 ^ 63) (hpl : pick.length < 2 ^ 63) :
    RtE Tryd.prog 46 [.slice a l.length cn, .slice ia all.length ic, .slice sa pick.length sc].toArray S w0 η (fun v η' => checkS l all pick = 0 ∧ ∃ (c : EC) (r : RS), v = ptr c.gb ∧ ROk l pick all r ∧ r.k = all.length ∧ η' = eH c l pick r η) (fun ch η' => checkS l all pick ≠ 0 ∧ ch = stopV (checkS l all pick) ∧ η' = η) := by
  have hF := open_wide
  refine RtE.of (fn := Tryd.f46) Tryd.func46 rfl rfl ?_
  refine T.seq ?_
  refine T.region ?_
  refine TL.assign hF rfl rfl ?_
  refine TL.nil ?_
  refine TQ.then_n ?_
  refine T.seq ?_
  refine T.region ?_
  refine TL.move hF rfl rfl ?_
  refine TL.callE hF (check_fn hg hn hl hfl) rfl rfl ?_ ?_
  · rintro _ _ ⟨hv, rfl⟩
    have hok := ok_of hv
    have hlen := hok.len
    refine TL.nil ?_
    refine TQ.then_n ?_
    refine T.seq ?_
    refine T.region ?_
    refine TL.assign hF rfl rfl ?_
    refine TL.nil ?_
    refine TQ.then_n ?_
    refine T.seq ?_
    refine T.region ?_
    refine TL.move hF rfl rfl ?_
    refine TL.move hF rfl rfl ?_
    refine TL.makeMap hF rfl (fun b13 => ?_)
    refine TL.move hF rfl rfl ?_
    refine TL.len hF rfl rfl ?_
    refine TL.move hF rfl rfl ?_
    refine TL.call hF (listed_fn (g := 53) (cap := #[]) (F := fun _ => -1) (by omega) (fun i _ s => none_fn (i : Int))) rfl rfl ?_
    rintro _ _ ⟨bl, rfl, rfl⟩
    refine TL.move hF rfl rfl ?_
    refine TL.len hF rfl rfl ?_
    refine TL.move hF rfl rfl ?_
    refine TL.call hF (listed_fn (g := 53) (cap := #[]) (F := fun _ => -1) (by omega) (fun i _ s => none_fn (i : Int))) rfl rfl ?_
    rintro _ _ ⟨bo, rfl, rfl⟩
    refine TL.build hF rfl (r := .agg (engV ⟨0, b13, bl, bo, a, cn, sa, sc⟩ l.length pick.length { at' := 0, es := #[], clock := 0, da := none, dc := 0, dg := [], av := .slice none 0 0, wv := .slice none 0 0 } 0 0)) (fun w => by kernel_rfl) rfl ?_
    refine TL.box hF rfl rfl (fun b23 => ?_)
    refine TL.assign hF rfl rfl ?_
    refine TL.nil ?_
    refine TQ.then_n ?_
    refine T.seq ?_
    refine T.region ?_
    refine TL.move hF rfl rfl ?_
    refine TL.move hF rfl rfl ?_
    refine TL.pick' [0, 3, 2, 1] [_, _, _, _] rfl rfl rfl ?_
    refine TL.callM hF (gcheck_fn (gb := b23) (E := engV ⟨b23, b13, bl, bo, a, cn, sa, sc⟩ l.length pick.length { at' := 0, es := #[], clock := 0, da := none, dc := 0, dg := [], av := .slice none 0 0, wv := .slice none 0 0 } 0 0) ⟨List.mem_cons_self, rfl, rfl⟩ hn hi hp hl hal hpl) rfl rfl (fun hG _ => ?_) (fun hG => ?_)
    · skip
      refine TL.nil ?_
      refine TQ.then_n ?_
      refine T.seq ?_
      refine T.region ?_
      refine TL.move hF rfl rfl ?_
      refine TL.move hF rfl rfl ?_
      refine TL.call hF (run_fn (c := ⟨b23, b13, bl, bo, a, cn, sa, sc⟩) hg hn hok hi hp hG) rfl rfl ?_
      rintro _ _ ⟨r, hr, hrk, rfl⟩
      refine TL.nil ?_
      refine TQ.then_n ?_
      refine T.seq ?_
      refine T.region ?_
      refine TL.move hF rfl rfl ?_
      refine TL.assign hF rfl rfl ?_
      refine TL.nil ?_
      refine TQ.then_n ?_
      refine T.ret ?_
      refine TQ.retsE [6] _ rfl rfl rfl ?_
      exact ⟨by rw [checkS_rest hv]; exact hG, ⟨b23, b13, bl, bo, a, cn, sa, sc⟩, r, rfl, hr, hrk, rfl⟩
    · skip
      refine TQ.then_p ?_
      refine TQ.pop (TQ.pop (TQ.pop (TQ.pop ?_)))
      exact TQ.panicE ⟨by rw [checkS_rest hv]; exact hG, by rw [checkS_rest hv], rfl⟩
  · rintro _ _ ⟨hv, rfl, rfl⟩
    refine TQ.then_p ?_
    have e : checkS l all pick = 1 := by unfold checkS; rw [if_neg (by simp [hv])]
    exact TQ.panicE ⟨by rw [e]; decide, by rw [e], rfl⟩
set_option maxHeartbeats 2000000 in
theorem Run_progC {a : Option Addr} {l : List NodeD} {cn : Nat} {ia : Option Addr} {all : List InstD} {ic : Nat} {sa : Option Addr} {pick : List Int} {sc : Nat} (hg : Kinds S w0) (hn : Nodes S w0 [] a l) (hi : Insts S w0 [] ia all) (hp : Row S w0 [] sa (ints pick)) (hl : l.length < 2 ^ 63) (hfl : ∀ x ∈ l, x.fr.length < 2 ^ 63) (hal : all.length < 2 ^ 63) (hpl : pick.length < 2 ^ 63) :
    Rt Tryd.prog 17 [.slice a l.length cn, .slice ia all.length ic, .slice sa pick.length sc].toArray S w0 η (fun v η' => ∃ a cap segs, v = .tuple #[.slice a (runS l all pick).1.length cap, .int .i64 (runS l all pick).2] ∧ η' = segs ++ η ∧ (runS l all pick).1.length ≤ cap ∧ Row S w0 segs a ((runS l all pick).1.flatMap DoneD.cells)) := by
  have hF := open_wide
  refine Rt.ofL (fn := Tryd.f17) Tryd.func17 rfl rfl ?_
  refine T.seq ?_
  refine T.region ?_
  refine TL.assign hF rfl rfl ?_
  refine TL.alloc hF rfl (fun b7 => ?_)
  refine TL.nil ?_
  refine TQ.then_n ?_
  refine T.seq ?_
  refine T.region ?_
  refine TL.makeFunc hF rfl rfl rfl ?_
  refine TL.defer hF rfl rfl ?_
  refine TL.nil ?_
  refine TQ.then_n ?_
  refine T.seq ?_
  refine T.region ?_
  refine TL.move hF rfl rfl ?_
  refine TL.move hF rfl rfl ?_
  refine TL.move hF rfl rfl ?_
  refine TL.callE hF (ran_fn hg hn hi hp hl hfl hal hpl) rfl rfl ?_ ?_
  · rintro _ _ ⟨hck, c, r, rfl, hr, hrk, rfl⟩
    obtain ⟨htold, hask⟩ := hr.told hrk
    obtain ⟨a8, c8, hv8⟩ := hr.a.o.form
    obtain ⟨a9, c9, hv9⟩ := hr.w.o.form
    unfold eH
    refine TL.nilCheck hF rfl rfl ?_
    refine TL.fieldAddr hF rfl rfl ?_
    refine TL.load hF rfl (by first | exact At.own' (i := 0) rfl rfl | exact At.own' (i := 1) rfl rfl | exact At.own' (i := 2) rfl rfl | exact At.own' (i := 3) rfl rfl | exact At.own' (i := 4) rfl rfl | exact At.own' (i := 5) rfl rfl | exact At.own' (i := 6) rfl rfl | exact At.own' (i := 7) rfl rfl | exact At.own' (i := 8) rfl rfl | exact At.own' (i := 9) rfl rfl | exact At.own' (i := 10) rfl rfl | exact At.own' (i := 11) rfl rfl | exact At.own' (i := 12) rfl rfl) rfl ?_
    refine TL.assign hF rfl rfl ?_
    refine TL.hperm ([(b7, Obj.cells #[.int .i64 0] 27 (0, 0))] :: engH c l.length pick.length r.x r.s r.ds.length r.many (r.ag :: r.wg :: (r.ins ++ η))) (mid [[(b7, Obj.cells #[.int .i64 0] 27 (0, 0))]] (engH c l.length pick.length r.x r.s r.ds.length r.many (r.ag :: r.wg :: r.ins)) η) ?_
    refine TL.storeI hF 0 rfl rfl rfl rfl (by simp) ?_
    refine TL.nil ?_
    refine TQ.then_n ?_
    refine T.ret ?_
    have e : runS l all pick = (r.ds, 0) := by unfold runS; rw [if_pos hck, htold]
    refine TQ.retL [6] _ stop45 (stopped_nil _) rfl rfl rfl (At.own' (i := 0) rfl rfl) ?_
    rw [e]
    exact ⟨r.x.da, r.x.dc, [(b7, Obj.cells #[.int .i64 0] 27 (0, 0))] :: engH c l.length pick.length r.x r.s r.ds.length r.many (r.ag :: r.wg :: r.ins), by simp [retVal], rfl, osl_cap hr.e.done, hr.e.done.row (by simp)⟩
  · rintro _ _ ⟨hck, rfl, rfl⟩
    refine TQ.then_p ?_
    refine TQ.panL [6] [.slice none 0 0] stop45 (stopped_err _) rfl rfl rfl (At.own' (i := 0) rfl rfl) ?_
    have e : runS l all pick = ([], checkS l all pick) := by unfold runS; rw [if_neg hck]
    rw [e]
    exact ⟨none, 0, [[(b7, Obj.cells #[.int .i64 (checkS l all pick)] 27 (0, 0))]], rfl, rfl, Nat.le_refl _, Row.none⟩
theorem Run_prog {a : Option Addr} {l : List NodeD} {cn : Nat} {ia : Option Addr} {all : List InstD} {ic : Nat} {sa : Option Addr} {pick : List Int} {sc : Nat} (hg : Kinds S w0) (hn : Nodes S w0 [] a l) (hi : Insts S w0 [] ia all) (hp : Row S w0 [] sa (ints pick)) (hl : l.length < 2 ^ 63) (hfl : ∀ x ∈ l, x.fr.length < 2 ^ 63) (hal : all.length < 2 ^ 63) (hpl : pick.length < 2 ^ 63) : Rt Tryd.prog 17 [.slice a l.length cn, .slice ia all.length ic, .slice sa pick.length sc].toArray S w0 η (fun v η' => ∃ a cap segs, v = .tuple #[.slice a (runS l all pick).1.length cap, .int .i64 (runS l all pick).2] ∧ η' = segs ++ η ∧ Row S w0 segs a ((runS l all pick).1.flatMap DoneD.cells)) :=
  (Run_progC hg hn hi hp hl hfl hal hpl).mono fun _ _ ⟨a, c, s, h1, h2, _, h3⟩ => ⟨a, c, s, h1, h2, h3⟩
set_option maxHeartbeats 2000000 in
theorem Asked_prog {a : Option Addr} {l : List NodeD} {cn : Nat} {ia : Option Addr} {all : List InstD} {ic : Nat} {sa : Option Addr} {pick : List Int} {sc : Nat} (hg : Kinds S w0) (hn : Nodes S w0 [] a l) (hi : Insts S w0 [] ia all) (hp : Row S w0 [] sa (ints pick)) (hl : l.length < 2 ^ 63) (hfl : ∀ x ∈ l, x.fr.length < 2 ^ 63) (hal : all.length < 2 ^ 63) (hpl : pick.length < 2 ^ 63) :
    Rt Tryd.prog 19 [.slice a l.length cn, .slice ia all.length ic, .slice sa pick.length sc].toArray S w0 η (fun v η' => ∃ a cap segs, v = .tuple #[.slice a (askedS l all pick).1.length cap, .int .i64 (askedS l all pick).2] ∧ η' = segs ++ η ∧ Lists S w0 segs a (askedS l all pick).1) := by
  have hF := open_wide
  refine Rt.ofL (fn := Tryd.f19) Tryd.func19 rfl rfl ?_
  refine T.seq ?_
  refine T.region ?_
  refine TL.assign hF rfl rfl ?_
  refine TL.alloc hF rfl (fun b7 => ?_)
  refine TL.nil ?_
  refine TQ.then_n ?_
  refine T.seq ?_
  refine T.region ?_
  refine TL.makeFunc hF rfl rfl rfl ?_
  refine TL.defer hF rfl rfl ?_
  refine TL.nil ?_
  refine TQ.then_n ?_
  refine T.seq ?_
  refine T.region ?_
  refine TL.move hF rfl rfl ?_
  refine TL.move hF rfl rfl ?_
  refine TL.move hF rfl rfl ?_
  refine TL.callE hF (ran_fn hg hn hi hp hl hfl hal hpl) rfl rfl ?_ ?_
  · rintro _ _ ⟨hck, c, r, rfl, hr, hrk, rfl⟩
    obtain ⟨htold, hask⟩ := hr.told hrk
    obtain ⟨a8, c8, hv8⟩ := hr.a.o.form
    obtain ⟨a9, c9, hv9⟩ := hr.w.o.form
    unfold eH
    refine TL.nilCheck hF rfl rfl ?_
    refine TL.fieldAddr hF rfl rfl ?_
    refine TL.load hF rfl (by first | exact At.own' (i := 0) rfl rfl | exact At.own' (i := 1) rfl rfl | exact At.own' (i := 2) rfl rfl | exact At.own' (i := 3) rfl rfl | exact At.own' (i := 4) rfl rfl | exact At.own' (i := 5) rfl rfl | exact At.own' (i := 6) rfl rfl | exact At.own' (i := 7) rfl rfl | exact At.own' (i := 8) rfl rfl | exact At.own' (i := 9) rfl rfl | exact At.own' (i := 10) rfl rfl | exact At.own' (i := 11) rfl rfl | exact At.own' (i := 12) rfl rfl) rfl ?_
    refine TL.assign hF rfl rfl ?_
    refine TL.hperm ([(b7, Obj.cells #[.int .i64 0] 27 (0, 0))] :: engH c l.length pick.length r.x r.s r.ds.length r.many (r.ag :: r.wg :: (r.ins ++ η))) (mid [[(b7, Obj.cells #[.int .i64 0] 27 (0, 0))]] (engH c l.length pick.length r.x r.s r.ds.length r.many (r.ag :: r.wg :: r.ins)) η) ?_
    refine TL.storeI hF 0 rfl rfl rfl rfl (by simp) ?_
    refine TL.nil ?_
    refine TQ.then_n ?_
    refine T.ret ?_
    have e : askedS l all pick = (r.ao.map (·.2.1), 0) := by unfold askedS; rw [if_pos hck, htold, hask]
    refine TQ.retL [6] _ stop48 (stopped_nil _) rfl rfl rfl (At.own' (i := 0) rfl rfl) ?_
    rw [e]
    have hO := hr.a
    rw [hv8] at hO
    exact ⟨a8, c8, [(b7, Obj.cells #[.int .i64 0] 27 (0, 0))] :: engH c l.length pick.length r.x r.s r.ds.length r.many (r.ag :: r.wg :: r.ins), (by show Value.tuple #[r.x.av, .int .i64 0] = _; rw [hv8]; simp), rfl, hO.lists (by simp) (fun t ht => by have := hr.ia t ht; simp [this])⟩
  · rintro _ _ ⟨hck, rfl, rfl⟩
    refine TQ.then_p ?_
    refine TQ.panL [6] [.slice none 0 0] stop48 (stopped_err _) rfl rfl rfl (At.own' (i := 0) rfl rfl) ?_
    have e : askedS l all pick = ([], checkS l all pick) := by unfold askedS; rw [if_neg hck]
    rw [e]
    exact ⟨none, 0, [[(b7, Obj.cells #[.int .i64 (checkS l all pick)] 27 (0, 0))]], rfl, rfl, Lists.none⟩
set_option maxHeartbeats 2000000 in
theorem Eager_prog {a : Option Addr} {l : List NodeD} {cn : Nat} {ia : Option Addr} {all : List InstD} {ic : Nat} {sa : Option Addr} {pick : List Int} {sc : Nat} (hg : Kinds S w0) (hn : Nodes S w0 [] a l) (hi : Insts S w0 [] ia all) (hp : Row S w0 [] sa (ints pick)) (hl : l.length < 2 ^ 63) (hfl : ∀ x ∈ l, x.fr.length < 2 ^ 63) (hal : all.length < 2 ^ 63) (hpl : pick.length < 2 ^ 63) :
    Rt Tryd.prog 21 [.slice a l.length cn, .slice ia all.length ic, .slice sa pick.length sc].toArray S w0 η (fun v η' => ∃ a cap segs, v = .tuple #[.slice a (eagerS l all pick).1.length cap, .int .i64 (eagerS l all pick).2] ∧ η' = segs ++ η ∧ Lists S w0 segs a (eagerS l all pick).1) := by
  have hF := open_wide
  refine Rt.ofL (fn := Tryd.f21) Tryd.func21 rfl rfl ?_
  refine T.seq ?_
  refine T.region ?_
  refine TL.assign hF rfl rfl ?_
  refine TL.alloc hF rfl (fun b7 => ?_)
  refine TL.nil ?_
  refine TQ.then_n ?_
  refine T.seq ?_
  refine T.region ?_
  refine TL.makeFunc hF rfl rfl rfl ?_
  refine TL.defer hF rfl rfl ?_
  refine TL.nil ?_
  refine TQ.then_n ?_
  refine T.seq ?_
  refine T.region ?_
  refine TL.move hF rfl rfl ?_
  refine TL.move hF rfl rfl ?_
  refine TL.move hF rfl rfl ?_
  refine TL.callE hF (ran_fn hg hn hi hp hl hfl hal hpl) rfl rfl ?_ ?_
  · rintro _ _ ⟨hck, c, r, rfl, hr, hrk, rfl⟩
    obtain ⟨htold, hask⟩ := hr.told hrk
    obtain ⟨a8, c8, hv8⟩ := hr.a.o.form
    obtain ⟨a9, c9, hv9⟩ := hr.w.o.form
    unfold eH
    refine TL.nilCheck hF rfl rfl ?_
    refine TL.fieldAddr hF rfl rfl ?_
    refine TL.load hF rfl (by first | exact At.own' (i := 0) rfl rfl | exact At.own' (i := 1) rfl rfl | exact At.own' (i := 2) rfl rfl | exact At.own' (i := 3) rfl rfl | exact At.own' (i := 4) rfl rfl | exact At.own' (i := 5) rfl rfl | exact At.own' (i := 6) rfl rfl | exact At.own' (i := 7) rfl rfl | exact At.own' (i := 8) rfl rfl | exact At.own' (i := 9) rfl rfl | exact At.own' (i := 10) rfl rfl | exact At.own' (i := 11) rfl rfl | exact At.own' (i := 12) rfl rfl) rfl ?_
    refine TL.assign hF rfl rfl ?_
    refine TL.hperm ([(b7, Obj.cells #[.int .i64 0] 27 (0, 0))] :: engH c l.length pick.length r.x r.s r.ds.length r.many (r.ag :: r.wg :: (r.ins ++ η))) (mid [[(b7, Obj.cells #[.int .i64 0] 27 (0, 0))]] (engH c l.length pick.length r.x r.s r.ds.length r.many (r.ag :: r.wg :: r.ins)) η) ?_
    refine TL.storeI hF 0 rfl rfl rfl rfl (by simp) ?_
    refine TL.nil ?_
    refine TQ.then_n ?_
    refine T.ret ?_
    have e : eagerS l all pick = (r.wo.map (·.2.1), 0) := by unfold eagerS; rw [if_pos hck, htold, hr.eager]
    refine TQ.retL [6] _ stop49 (stopped_nil _) rfl rfl rfl (At.own' (i := 0) rfl rfl) ?_
    rw [e]
    have hO := hr.w
    rw [hv9] at hO
    exact ⟨a9, c9, [(b7, Obj.cells #[.int .i64 0] 27 (0, 0))] :: engH c l.length pick.length r.x r.s r.ds.length r.many (r.ag :: r.wg :: r.ins), (by show Value.tuple #[r.x.wv, .int .i64 0] = _; rw [hv9]; simp), rfl, hO.lists (by simp) (fun t ht => by have := hr.iw t ht; simp [this])⟩
  · rintro _ _ ⟨hck, rfl, rfl⟩
    refine TQ.then_p ?_
    refine TQ.panL [6] [.slice none 0 0] stop49 (stopped_err _) rfl rfl rfl (At.own' (i := 0) rfl rfl) ?_
    have e : eagerS l all pick = ([], checkS l all pick) := by unfold eagerS; rw [if_neg hck]
    rw [e]
    exact ⟨none, 0, [[(b7, Obj.cells #[.int .i64 (checkS l all pick)] 27 (0, 0))]], rfl, rfl, Lists.none⟩
set_option maxHeartbeats 2000000 in
theorem Looked_prog {a : Option Addr} {l : List NodeD} {cn : Nat} {ia : Option Addr} {all : List InstD} {ic : Nat} {sa : Option Addr} {pick : List Int} {sc : Nat} (hg : Kinds S w0) (hn : Nodes S w0 [] a l) (hi : Insts S w0 [] ia all) (hp : Row S w0 [] sa (ints pick)) (hl : l.length < 2 ^ 63) (hfl : ∀ x ∈ l, x.fr.length < 2 ^ 63) (hal : all.length < 2 ^ 63) (hpl : pick.length < 2 ^ 63) :
    Rt Tryd.prog 23 [.slice a l.length cn, .slice ia all.length ic, .slice sa pick.length sc].toArray S w0 η (fun v η' => v = .tuple #[.int .i64 (lookedS l all pick).1, .int .i64 (lookedS l all pick).2.1, .int .i64 (lookedS l all pick).2.2] ∧ ∃ segs, η' = segs ++ η) := by
  have hF := open_wide
  refine Rt.ofL (fn := Tryd.f23) Tryd.func23 rfl rfl ?_
  refine T.seq ?_
  refine T.region ?_
  refine TL.assign hF rfl rfl ?_
  refine TL.assign hF rfl rfl ?_
  refine TL.alloc hF rfl (fun b8 => ?_)
  refine TL.nil ?_
  refine TQ.then_n ?_
  refine T.seq ?_
  refine T.region ?_
  refine TL.makeFunc hF rfl rfl rfl ?_
  refine TL.defer hF rfl rfl ?_
  refine TL.nil ?_
  refine TQ.then_n ?_
  refine T.seq ?_
  refine T.region ?_
  refine TL.move hF rfl rfl ?_
  refine TL.move hF rfl rfl ?_
  refine TL.move hF rfl rfl ?_
  refine TL.callE hF (ran_fn hg hn hi hp hl hfl hal hpl) rfl rfl ?_ ?_
  · rintro _ _ ⟨hck, c, r, rfl, hr, hrk, rfl⟩
    obtain ⟨htold, hask⟩ := hr.told hrk
    obtain ⟨a8, c8, hv8⟩ := hr.a.o.form
    obtain ⟨a9, c9, hv9⟩ := hr.w.o.form
    unfold eH
    refine TL.assign hF rfl rfl ?_
    refine TL.nil ?_
    refine TQ.then_n ?_
    refine T.seq ?_
    refine T.draw ?_
    refine DR.stepV [_] rfl [(9, _, none)] rfl rfl ⟨⟨rfl, by kernel_rfl⟩, trivial⟩ (fun ext => TL.move hF rfl rfl TL.fin) ?_
    refine DR.stepV [_, _] rfl [(15, _, some 0)] rfl rfl ⟨⟨rfl, rfl, rfl⟩, trivial⟩ (fun ext => TL.nilCheck hF rfl rfl TL.fin) ?_
    refine DR.stepV [_, _, _] rfl [(16, _, some 1)] rfl rfl ⟨⟨rfl, rfl, rfl⟩, trivial⟩ (fun ext => TL.fieldAddr hF rfl rfl TL.fin) ?_
    refine DR.stepV [_, _, _, _] rfl [(17, _, some 2)] rfl rfl ⟨⟨rfl, rfl, rfl⟩, trivial⟩ (fun ext => TL.load hF rfl (by first | exact At.own' (i := 0) rfl rfl | exact At.own' (i := 1) rfl rfl | exact At.own' (i := 2) rfl rfl | exact At.own' (i := 3) rfl rfl | exact At.own' (i := 4) rfl rfl | exact At.own' (i := 5) rfl rfl | exact At.own' (i := 6) rfl rfl | exact At.own' (i := 7) rfl rfl | exact At.own' (i := 8) rfl rfl | exact At.own' (i := 9) rfl rfl | exact At.own' (i := 10) rfl rfl | exact At.own' (i := 11) rfl rfl | exact At.own' (i := 12) rfl rfl) rfl TL.fin) ?_
    refine DR.stepV [_, _, _, _, _] rfl [(9, _, none)] rfl rfl ⟨⟨rfl, by kernel_rfl⟩, trivial⟩ (fun ext => TL.move hF rfl rfl TL.fin) ?_
    refine DR.stepV [_, _, _, _, _, _] rfl [(19, _, some 4)] rfl rfl ⟨⟨rfl, rfl, rfl⟩, trivial⟩ (fun ext => TL.nilCheck hF rfl rfl TL.fin) ?_
    refine DR.stepV [_, _, _, _, _, _, _] rfl [(20, _, some 5)] rfl rfl ⟨⟨rfl, rfl, rfl⟩, trivial⟩ (fun ext => TL.fieldAddr hF rfl rfl TL.fin) ?_
    refine DR.stepV [_, _, _, _, _, _, _, _] rfl [(21, _, some 6)] rfl rfl ⟨⟨rfl, rfl, rfl⟩, trivial⟩ (fun ext => TL.load hF rfl (by first | exact At.own' (i := 0) rfl rfl | exact At.own' (i := 1) rfl rfl | exact At.own' (i := 2) rfl rfl | exact At.own' (i := 3) rfl rfl | exact At.own' (i := 4) rfl rfl | exact At.own' (i := 5) rfl rfl | exact At.own' (i := 6) rfl rfl | exact At.own' (i := 7) rfl rfl | exact At.own' (i := 8) rfl rfl | exact At.own' (i := 9) rfl rfl | exact At.own' (i := 10) rfl rfl | exact At.own' (i := 11) rfl rfl | exact At.own' (i := 12) rfl rfl) rfl TL.fin) ?_
    refine DR.stepV [_, _, _, _, _, _, _, _, _] rfl [(22, _, some 7)] rfl rfl ⟨⟨rfl, rfl, rfl⟩, trivial⟩ (fun ext => TL.len hF rfl rfl TL.fin) ?_
    refine DR.stepV [_, _, _, _, _, _, _, _, _, _] rfl [(18, _, some 3)] rfl rfl ⟨⟨rfl, rfl, rfl⟩, trivial⟩ (fun ext => TL.assign hF rfl rfl TL.fin) ?_
    refine DR.done [(6, _), (23, _), (22, _), (21, _), (20, _), (19, _), (18, _), (17, _), (16, _), (15, _)] [_, _] mixed (by kernel_rfl) (by kernel_rfl) (by kernel_rfl) rfl rfl ?_
    refine TL.assign hF rfl rfl ?_
    refine TL.hperm ([(b8, Obj.cells #[.int .i64 0] 27 (0, 0))] :: engH c l.length pick.length r.x r.s r.ds.length r.many (r.ag :: r.wg :: (r.ins ++ η))) (mid [[(b8, Obj.cells #[.int .i64 0] 27 (0, 0))]] (engH c l.length pick.length r.x r.s r.ds.length r.many (r.ag :: r.wg :: r.ins)) η) ?_
    refine TL.storeI hF 0 rfl rfl rfl rfl (by simp) ?_
    refine TL.nil ?_
    refine TQ.then_n ?_
    refine T.ret ?_
    have e : lookedS l all pick = (((r.many : Nat) : Int), ((r.ds.length : Nat) : Int), 0) := by unfold lookedS; rw [if_pos hck, htold]
    refine TQ.retL [6, 7] _ stop50 (stopped_nil _) rfl rfl rfl (At.own' (i := 0) rfl rfl) ?_
    rw [e]
    exact ⟨rfl, [(b8, Obj.cells #[.int .i64 0] 27 (0, 0))] :: engH c l.length pick.length r.x r.s r.ds.length r.many (r.ag :: r.wg :: r.ins), rfl⟩
  · rintro _ _ ⟨hck, rfl, rfl⟩
    refine TQ.then_p ?_
    refine TQ.panL [6, 7] [.int .i64 0, .int .i64 0] stop50 (stopped_err _) rfl rfl rfl (At.own' (i := 0) rfl rfl) ?_
    have e : lookedS l all pick = (0, 0, checkS l all pick) := by unfold lookedS; rw [if_neg hck]
    rw [e]
    exact ⟨rfl, [[(b8, Obj.cells #[.int .i64 (checkS l all pick)] 27 (0, 0))]], rfl⟩
end Go.Proofs.YtefkmiomldhmjaaDoor
