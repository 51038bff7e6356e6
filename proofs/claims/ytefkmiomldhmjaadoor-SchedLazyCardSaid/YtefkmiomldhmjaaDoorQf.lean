/- Several texts in one. -/
import Derived.Test.YtefkmiomldhmjaaDoorQe
import Derived.Test.YtefkmiomldhmjaaDoorQb
/- What the laws say of made nodes and instants; the law of what is behind what. -/
namespace Go.Proofs.YtefkmiomldhmjaaDoor
open Go.Sl
variable {S : Nat → Prop} {w0 : World} {η : Heap}
theorem MadeOk.rn {l : List NodeD} {all : List InstD} (h : MadeOk l all) : Rn l all := Rn.of (h.check (pick := []) (by simp) (by simp))
theorem pick_ok {xs : List Nat} (hb : ∀ n ∈ xs, n < 65536) : ((xs.take 200).map fun (n : Nat) => (n : Int)).length ≤ 200 ∧ ∀ p ∈ (xs.take 200).map (fun (n : Nat) => (n : Int)), 0 ≤ p ∧ p ≤ 1000000 := by
  refine ⟨by simp; omega, fun p hp => ?_⟩
  obtain ⟨n, hn, rfl⟩ := List.mem_map.1 hp
  have := hb n (List.mem_of_mem_take hn)
  omega
/-- What is told of an entry. -/
theorem Rn.entry {l : List NodeD} {all : List InstD} (h : Rn l all) (pick : List Int) {d : DoneD} (hd : d ∈ (toldS l all pick).1) : ∃ q i : Nat, d.inst = q ∧ q < all.length ∧ d.node = i ∧ i < l.length ∧ wantS l (ia all q).asks i = true ∧ d.word = VP l all (q + 1) i := by
  obtain ⟨k, hk, hd2, h1⟩ := h.of_done pick hd
  obtain ⟨_, i, h2, h3, h4, h5⟩ := h.done pick hk hd2
  exact ⟨k, i, h1, hk, h2, h3, h4, h5⟩
theorem MadeOk.len63 {l : List NodeD} {all : List InstD} (h : MadeOk l all) : l.length < 2 ^ 63 ∧ (∀ x ∈ l, x.fr.length < 2 ^ 63) ∧ all.length < 2 ^ 63 := by
  have h1 := h.hi
  have h2 := h.al
  refine ⟨by omega, fun x hx => ?_, by omega⟩
  obtain ⟨i, hi, rfl⟩ := List.mem_iff_getElem.1 hx
  have := h.rn.ok.few i hi
  omega
theorem told_dlen {l : List NodeD} {all : List InstD} (h : MadeOk l all) (pick : List Int) : (toldS l all pick).1.length ≤ 400 := by
  have h1 := allS_dlen l pick all 0 (startS l)
  have h2 : l.length * all.length ≤ 20 * 20 := Nat.mul_le_mul h.hi h.al
  unfold toldS; omega
section
variable {a : Option Addr} {l : List NodeD} {cn : Nat} {ia : Option Addr} {all : List InstD} {ic : Nat} {sa : Option Addr} {pick : List Int} {sc : Nat} (hg : Kinds S w0) (hn : Nodes S w0 [] a l) (hi : Insts S w0 [] ia all) (hp : Row S w0 [] sa (ints pick)) (hm : MadeOk l all) (hc : checkS l all pick = 0)
include hg hn hi hp hm hc
theorem Run_made : Rt Tryd.prog 17 [.slice a l.length cn, .slice ia all.length ic, .slice sa pick.length sc].toArray S w0 η (fun v η' => ∃ a cap segs, v = .tuple #[.slice a (toldS l all pick).1.length cap, .int .i64 0] ∧ η' = segs ++ η ∧ (toldS l all pick).1.length ≤ cap ∧ Row S w0 segs a ((toldS l all pick).1.flatMap DoneD.cells)) := by
  have hpl : pick.length ≤ 200 := (restE_ok (by rw [← checkS_rest hm.valid]; exact hc)).2.1
  have h := Run_progC (η := η) (cn := cn) (ic := ic) (sc := sc) hg hn hi hp hm.len63.1 hm.len63.2.1 hm.len63.2.2 (by omega)
  unfold runS at h; rw [if_pos hc] at h; exact h
theorem Asked_made : Rt Tryd.prog 19 [.slice a l.length cn, .slice ia all.length ic, .slice sa pick.length sc].toArray S w0 η (fun v η' => ∃ a cap segs, v = .tuple #[.slice a (askedOf all (toldS l all pick).2.2).length cap, .int .i64 0] ∧ η' = segs ++ η ∧ Lists S w0 segs a (askedOf all (toldS l all pick).2.2)) := by
  have hpl : pick.length ≤ 200 := (restE_ok (by rw [← checkS_rest hm.valid]; exact hc)).2.1
  have h := Asked_prog (η := η) (cn := cn) (ic := ic) (sc := sc) hg hn hi hp hm.len63.1 hm.len63.2.1 hm.len63.2.2 (by omega)
  unfold askedS at h; rw [if_pos hc] at h; exact h
theorem Eager_made : Rt Tryd.prog 21 [.slice a l.length cn, .slice ia all.length ic, .slice sa pick.length sc].toArray S w0 η (fun v η' => ∃ a cap segs, v = .tuple #[.slice a ((toldS l all pick).2.2.map (eagerOf l)).length cap, .int .i64 0] ∧ η' = segs ++ η ∧ Lists S w0 segs a ((toldS l all pick).2.2.map (eagerOf l))) := by
  have hpl : pick.length ≤ 200 := (restE_ok (by rw [← checkS_rest hm.valid]; exact hc)).2.1
  have h := Eager_prog (η := η) (cn := cn) (ic := ic) (sc := sc) hg hn hi hp hm.len63.1 hm.len63.2.1 hm.len63.2.2 (by omega)
  unfold eagerS at h; rw [if_pos hc] at h; exact h
theorem Looked_made : Rt Tryd.prog 23 [.slice a l.length cn, .slice ia all.length ic, .slice sa pick.length sc].toArray S w0 η (fun v η' => v = .tuple #[.int .i64 ((toldS l all pick).2.1 : Nat), .int .i64 ((toldS l all pick).1.length : Nat), .int .i64 0] ∧ ∃ segs, η' = segs ++ η) := by
  have hpl : pick.length ≤ 200 := (restE_ok (by rw [← checkS_rest hm.valid]; exact hc)).2.1
  have h := Looked_prog (η := η) (cn := cn) (ic := ic) (sc := sc) hg hn hi hp hm.len63.1 hm.len63.2.1 hm.len63.2.2 (by omega)
  unfold lookedS at h; rw [if_pos hc] at h; exact h
end
theorem Rn.pair {l : List NodeD} {all : List InstD} (h : Rn l all) (pick : List Int) {i j : Nat} {x y : DoneD} (hx : (toldS l all pick).1[i]? = some x) (hy : (toldS l all pick).1[j]? = some y) (hij : i < j) : Beh l x y := by
  obtain ⟨hi, rfl⟩ := List.getElem?_eq_some_iff.1 hx
  obtain ⟨hj, rfl⟩ := List.getElem?_eq_some_iff.1 hy
  exact List.pairwise_iff_getElem.1 (h.behind pick) i j hi hj hij

set_option maxHeartbeats 2000000 in
theorem SchedBehind_fn {a b : Option Addr} {xs ys : List Nat} {c d : Nat} (hg : Kinds S w0) (hx : Row S w0 [] a (n32 xs)) (hy : Row S w0 [] b (n32 ys)) (hxl : xs.length < 2 ^ 63) (hyl : ys.length < 2 ^ 63) (hxc : xs.length ≤ c) (hyc : ys.length ≤ d) (hxb : ∀ n ∈ xs, n < 4294967296) (hyb : ∀ n ∈ ys, n < 4294967296) {q : Option Addr} {zs : List Nat} {e : Nat} (hs : Row S w0 [] q (n16 zs)) (hsl : zs.length < 2 ^ 63) (hsc : zs.length ≤ e) (hsb : ∀ n ∈ zs, n < 65536) :
    Rt Tryd.prog 6 [.slice a xs.length c, .slice b ys.length d, .slice q zs.length e].toArray S w0 [] (fun v _ => v = .bool true) := by
  have hF := open_wide
  refine Rt.of (fn := Tryd.f6) Tryd.func6 rfl rfl ?_
  refine T.seq ?_
  refine T.region ?_
  refine TL.assign hF rfl rfl ?_
  refine TL.nil ?_
  refine TQ.then_n ?_
  refine T.seq ?_
  refine T.region ?_
  refine TL.move hF rfl rfl ?_
  refine TL.move hF rfl rfl ?_
  refine TL.call hF (made_fn hx hy hxl hyl hxc hyc hxb hyb) rfl rfl ?_
  rintro _ _ ⟨l, all, la, lc, lg, ia', ic, ig, ins, rfl, rfl, hm, hol, hoi, hfr, hir⟩
  have hb := Back.refl S w0
  have hn : Nodes S w0 (ig :: lg :: ins) la l := ⟨hol.row (by simp), fun x hx => (hfr x hx).up (fun z hz => by simp [hz])⟩
  have hi : Insts S w0 (ig :: lg :: ins) ia' all := ⟨hoi.row (by simp), fun x hx => (hir x hx).1.up (fun z hz => by simp [hz]), fun x hx => (hir x hx).2.up (fun z hz => by simp [hz])⟩
  have hlcap := osl_cap hol
  have hicap := osl_cap hoi
  clear hol hoi hfr hir
  refine TL.freeze (ig :: lg :: ins) rfl (fun S1 w1 hz1 => ?_)
  have hb := hb.frz hz1
  have hn := hn.frz hz1
  have hi := hi.frz hz1
  have hr := hm.rn
  have hok := hr.ok
  have hlen := hm.hi
  have halen := hm.al
  have hlo := hm.lo
  have hg := hg.old hz1
  have hs := hs.old hz1
  refine TL.move hF rfl rfl ?_
  refine TL.extract hF rfl rfl rfl ?_
  refine TL.extract hF rfl rfl rfl ?_
  refine TL.assign hF rfl rfl ?_
  refine TL.assign hF rfl rfl ?_
  refine TL.nil ?_
  refine TQ.then_n ?_
  refine T.seq ?_
  refine T.region ?_
  refine TL.move hF rfl rfl ?_
  refine TL.move hF rfl rfl ?_
  refine TL.move hF rfl rfl ?_
  refine TL.call hF (order_fn hs hsl hsc hsb) rfl rfl ?_
  rintro _ _ ⟨pa, pc, s2, rfl, rfl, hp⟩
  obtain ⟨hpl, hpq⟩ := pick_ok hsb
  generalize hpk : (zs.take 200).map (fun (n : Nat) => (n : Int)) = pick at hp hpl hpq ⊢
  have hck := hm.check hpl hpq
  refine TL.freeze [s2] rfl (fun S2 w2 hz2 => ?_)
  have hb := hb.frz hz2
  have hg := hg.old hz2
  have hn := hn.old hz2
  have hi := hi.old hz2
  have hp := hp.frz hz2
  refine TL.call hF (Run_made hg hn hi hp hm hck) rfl rfl ?_
  rintro _ _ ⟨da, dc, s3, rfl, rfl, hdc, hd⟩
  refine TL.freeze s3 rfl (fun S3 w3 hz3 => ?_)
  have hb := hb.frz hz3
  have hg := hg.old hz3
  have hn := hn.old hz3
  have hi := hi.old hz3
  have hp := hp.old hz3
  have hd := hd.frz hz3
  refine TL.move hF rfl rfl ?_
  refine TL.extract hF rfl rfl rfl ?_
  refine TL.extract hF rfl rfl rfl ?_
  refine TL.assign hF rfl rfl ?_
  refine TL.assign hF rfl rfl ?_
  refine TL.nil ?_
  refine TQ.then_n ?_
  refine T.seq ?_
  refine T.seq ?_
  refine T.region ?_
  refine TL.move hF rfl rfl ?_
  refine TL.bin hF rfl rfl rfl rfl ?_
  refine TL.nil ?_
  refine TQ.then_n ?_
  refine T.cond_f rfl rfl ?_
  refine T.skip ?_
  refine TQ.then_n ?_
  refine T.seq ?_
  refine T.seq ?_
  refine T.region ?_
  refine TL.move hF rfl rfl ?_
  refine TL.len hF rfl rfl ?_
  refine TL.move hF rfl rfl ?_
  refine TL.nil ?_
  refine TQ.then_n ?_
  refine T.block ?_
  have hE := fun d hd => hr.entry pick (d := d) hd
  have hP := fun i j x y hx hy hij => hr.pair pick (i := i) (j := j) (x := x) (y := y) hx hy hij
  have hdl := told_dlen hm pick
  generalize hD : (toldS l all pick).1 = D at hd hE hdl hP hdc ⊢
  refine T.loop (ι := Nat) (fun k => k ≤ D.length) (fun k => [(6, .bool false), (7, .slice la l.length lc), (8, .slice ia' all.length ic), (9, .slice da D.length dc), (33, .slice da D.length dc), (34, .int .i64 (D.length : Int)), (35, .int .i64 (k : Int))]) (fun _ => []) (fun k => D.length - k) 0 (Nat.zero_le _) ⟨rfl, rfl, rfl, rfl, rfl, rfl, rfl, trivial⟩ rfl ?_
  intro k hk
  refine T.seq ?_
  refine T.region ?_
  refine TL.bin hF rfl rfl rfl rfl ?_
  refine TL.nil ?_
  refine TQ.then_n ?_
  refine T.seq ?_
  first | refine T.cond_d rfl (fun ht36 => ?_) (fun ht36 => ?_) | refine T.cond _ rfl (fun ht36 => ?_) (fun ht36 => ?_)
  · refine T.skip ?_
    refine TQ.then_n ?_
    refine T.seq ?_
    refine T.block ?_
    refine T.seq ?_
    refine T.region ?_
    refine TL.move hF rfl rfl ?_
    refine TL.indexAddr hF rfl rfl (hd.tad dcl (by decide) (i := k) (by omega)) (by omega) (by omega) rfl ?_
    refine TL.loadA hF (D[k]'(by omega)).cells rfl rfl (hd.tabA dcl (i := k) (by omega)) rfl ?_
    refine TL.alloc hF rfl (fun b12 => ?_)
    refine TL.assign hF rfl rfl ?_
    refine TL.storeAI hF (D[k]'(by omega)).cells 0 rfl rfl rfl rfl (dcells1 _) (by simp [Value.cells, dcl]) ?_
    refine TL.nil ?_
    refine TQ.then_n ?_
    refine T.seq ?_
    refine T.seq ?_
    have hkl : k < D.length := by omega
    obtain ⟨eq, ei, e1, e2, e3, e4, _, _⟩ := hE _ (List.getElem_mem hkl)
    have hP1 : 0 < k → (D[k - 1]'(by omega)).inst ≤ D[k].inst := fun h => (hP (k - 1) k _ _ (List.getElem?_eq_getElem _) (List.getElem?_eq_getElem hkl) (by omega)).1
    rcases Nat.eq_zero_or_pos k with hk0 | hk0
    · refine T.draw ?_
      refine DR.stepV [_] rfl [(12, _, none)] rfl rfl ⟨⟨rfl, by kernel_rfl⟩, trivial⟩ (fun ext => TL.fieldAddr hF rfl rfl TL.fin) ?_
      refine DR.stepV [_, _] rfl [(40, _, some 0)] rfl rfl ⟨⟨rfl, rfl, rfl⟩, trivial⟩ (fun ext => TL.load hF rfl (by first | exact At.own' (i := 0) rfl rfl | exact At.own' (i := 1) rfl rfl | exact At.own' (i := 2) rfl rfl | exact At.own' (i := 3) rfl rfl | exact At.own' (i := 4) rfl rfl | exact At.own' (i := 5) rfl rfl | exact At.own' (i := 6) rfl rfl | exact At.own' (i := 7) rfl rfl | exact At.own' (i := 8) rfl rfl | exact At.own' (i := 9) rfl rfl | exact At.own' (i := 10) rfl rfl | exact At.own' (i := 11) rfl rfl | exact At.own' (i := 12) rfl rfl) rfl TL.fin) ?_
      refine DR.stepV [_, _, _] rfl [(41, _, some 1)] rfl rfl ⟨⟨rfl, rfl, rfl⟩, trivial⟩ (fun ext => TL.bin hF rfl rfl rfl rfl TL.fin) ?_
      refine DR.stepV [_, _, _, _] rfl [(42, _, some 2)] rfl rfl ⟨⟨rfl, rfl, rfl⟩, trivial⟩ (fun ext => TL.move hF rfl rfl TL.fin) ?_
      refine DR.stepV [_, _, _, _, _] rfl [(12, _, none), (43, _, some 3)] rfl rfl ⟨⟨rfl, by kernel_rfl⟩, ⟨rfl, rfl, rfl⟩, trivial⟩ (fun ext => TL.on rfl rfl rfl (by first | rfl | exact decide_eq_false (by omega) | (simp; omega)) <| TL.fieldAddr hF rfl rfl TL.fin) ?_
      refine DR.stepV [_, _, _, _, _, _] rfl [(44, _, some 4), (43, _, some 3)] rfl rfl ⟨⟨rfl, rfl, rfl⟩, ⟨rfl, rfl, rfl⟩, trivial⟩ (fun ext => TL.on rfl rfl rfl (by first | rfl | exact decide_eq_false (by omega) | (simp; omega)) <| TL.load hF rfl (by first | exact At.own' (i := 0) rfl rfl | exact At.own' (i := 1) rfl rfl | exact At.own' (i := 2) rfl rfl | exact At.own' (i := 3) rfl rfl | exact At.own' (i := 4) rfl rfl | exact At.own' (i := 5) rfl rfl | exact At.own' (i := 6) rfl rfl | exact At.own' (i := 7) rfl rfl | exact At.own' (i := 8) rfl rfl | exact At.own' (i := 9) rfl rfl | exact At.own' (i := 10) rfl rfl | exact At.own' (i := 11) rfl rfl | exact At.own' (i := 12) rfl rfl) rfl TL.fin) ?_
      refine DR.stepV [_, _, _, _, _, _, _] rfl [(7, _, none), (43, _, some 3)] rfl rfl ⟨⟨rfl, by kernel_rfl⟩, ⟨rfl, rfl, rfl⟩, trivial⟩ (fun ext => TL.on rfl rfl rfl (by first | rfl | exact decide_eq_false (by omega) | (simp; omega)) <| TL.move hF rfl rfl TL.fin) ?_
      refine DR.stepV [_, _, _, _, _, _, _, _] rfl [(46, _, some 6), (43, _, some 3)] rfl rfl ⟨⟨rfl, rfl, rfl⟩, ⟨rfl, rfl, rfl⟩, trivial⟩ (fun ext => TL.on rfl rfl rfl (by first | rfl | exact decide_eq_false (by omega) | (simp; omega)) <| TL.len hF rfl rfl TL.fin) ?_
      refine DR.stepV [_, _, _, _, _, _, _, _, _] rfl [(45, _, some 5), (47, _, some 7), (43, _, some 3)] rfl rfl ⟨⟨rfl, rfl, rfl⟩, ⟨rfl, rfl, rfl⟩, ⟨rfl, rfl, rfl⟩, trivial⟩ (fun ext => TL.on rfl rfl rfl (by first | rfl | exact decide_eq_false (by omega) | (simp; omega)) <| TL.bin hF rfl rfl rfl rfl TL.fin) ?_
      refine DR.stepV [_, _, _, _, _, _, _, _, _, _] rfl [(43, _, some 3), (48, _, some 8)] rfl rfl ⟨⟨rfl, rfl, rfl⟩, ⟨rfl, rfl, rfl⟩, trivial⟩ (fun ext => TL.pickF hF rfl (by first | rfl | exact decide_eq_false (by omega) | (simp; omega)) rfl rfl TL.fin) ?_
      refine DR.stepV [_, _, _, _, _, _, _, _, _, _, _] rfl [(49, _, some 9)] rfl rfl ⟨⟨rfl, rfl, rfl⟩, trivial⟩ (fun ext => TL.move hF rfl rfl TL.fin) ?_
      refine DR.stepV [_, _, _, _, _, _, _, _, _, _, _, _] rfl [(12, _, none), (50, _, some 10)] rfl rfl ⟨⟨rfl, by kernel_rfl⟩, ⟨rfl, rfl, rfl⟩, trivial⟩ (fun ext => TL.on rfl rfl rfl (by first | rfl | exact decide_eq_false (by omega) | (simp; omega)) <| TL.fieldAddr hF rfl rfl TL.fin) ?_
      refine DR.stepV [_, _, _, _, _, _, _, _, _, _, _, _, _] rfl [(51, _, some 11), (50, _, some 10)] rfl rfl ⟨⟨rfl, rfl, rfl⟩, ⟨rfl, rfl, rfl⟩, trivial⟩ (fun ext => TL.on rfl rfl rfl (by first | rfl | exact decide_eq_false (by omega) | (simp; omega)) <| TL.load hF rfl (by first | exact At.own' (i := 0) rfl rfl | exact At.own' (i := 1) rfl rfl | exact At.own' (i := 2) rfl rfl | exact At.own' (i := 3) rfl rfl | exact At.own' (i := 4) rfl rfl | exact At.own' (i := 5) rfl rfl | exact At.own' (i := 6) rfl rfl | exact At.own' (i := 7) rfl rfl | exact At.own' (i := 8) rfl rfl | exact At.own' (i := 9) rfl rfl | exact At.own' (i := 10) rfl rfl | exact At.own' (i := 11) rfl rfl | exact At.own' (i := 12) rfl rfl) rfl TL.fin) ?_
      refine DR.stepV [_, _, _, _, _, _, _, _, _, _, _, _, _, _] rfl [(52, _, some 12), (50, _, some 10)] rfl rfl ⟨⟨rfl, rfl, rfl⟩, ⟨rfl, rfl, rfl⟩, trivial⟩ (fun ext => TL.on rfl rfl rfl (by first | rfl | exact decide_eq_false (by omega) | (simp; omega)) <| TL.bin hF rfl rfl rfl rfl TL.fin) ?_
      refine DR.stepV [_, _, _, _, _, _, _, _, _, _, _, _, _, _, _] rfl [(50, _, some 10), (53, _, some 13)] rfl rfl ⟨⟨rfl, rfl, rfl⟩, ⟨rfl, rfl, rfl⟩, trivial⟩ (fun ext => TL.pickF hF rfl (by first | rfl | exact decide_eq_false (by omega) | (simp; omega)) rfl rfl TL.fin) ?_
      refine DR.stepV [_, _, _, _, _, _, _, _, _, _, _, _, _, _, _, _] rfl [(54, _, some 14)] rfl rfl ⟨⟨rfl, rfl, rfl⟩, trivial⟩ (fun ext => TL.move hF rfl rfl TL.fin) ?_
      refine DR.stepV [_, _, _, _, _, _, _, _, _, _, _, _, _, _, _, _, _] rfl [(12, _, none), (55, _, some 15)] rfl rfl ⟨⟨rfl, by kernel_rfl⟩, ⟨rfl, rfl, rfl⟩, trivial⟩ (fun ext => TL.on rfl rfl rfl (by first | rfl | exact decide_eq_false (by omega) | (simp; omega)) <| TL.fieldAddr hF rfl rfl TL.fin) ?_
      refine DR.stepV [_, _, _, _, _, _, _, _, _, _, _, _, _, _, _, _, _, _] rfl [(56, _, some 16), (55, _, some 15)] rfl rfl ⟨⟨rfl, rfl, rfl⟩, ⟨rfl, rfl, rfl⟩, trivial⟩ (fun ext => TL.on rfl rfl rfl (by first | rfl | exact decide_eq_false (by omega) | (simp; omega)) <| TL.load hF rfl (by first | exact At.own' (i := 0) rfl rfl | exact At.own' (i := 1) rfl rfl | exact At.own' (i := 2) rfl rfl | exact At.own' (i := 3) rfl rfl | exact At.own' (i := 4) rfl rfl | exact At.own' (i := 5) rfl rfl | exact At.own' (i := 6) rfl rfl | exact At.own' (i := 7) rfl rfl | exact At.own' (i := 8) rfl rfl | exact At.own' (i := 9) rfl rfl | exact At.own' (i := 10) rfl rfl | exact At.own' (i := 11) rfl rfl | exact At.own' (i := 12) rfl rfl) rfl TL.fin) ?_
      refine DR.stepV [_, _, _, _, _, _, _, _, _, _, _, _, _, _, _, _, _, _, _] rfl [(8, _, none), (55, _, some 15)] rfl rfl ⟨⟨rfl, by kernel_rfl⟩, ⟨rfl, rfl, rfl⟩, trivial⟩ (fun ext => TL.on rfl rfl rfl (by first | rfl | exact decide_eq_false (by omega) | (simp; omega)) <| TL.move hF rfl rfl TL.fin) ?_
      refine DR.stepV [_, _, _, _, _, _, _, _, _, _, _, _, _, _, _, _, _, _, _, _] rfl [(58, _, some 18), (55, _, some 15)] rfl rfl ⟨⟨rfl, rfl, rfl⟩, ⟨rfl, rfl, rfl⟩, trivial⟩ (fun ext => TL.on rfl rfl rfl (by first | rfl | exact decide_eq_false (by omega) | (simp; omega)) <| TL.len hF rfl rfl TL.fin) ?_
      refine DR.stepV [_, _, _, _, _, _, _, _, _, _, _, _, _, _, _, _, _, _, _, _, _] rfl [(57, _, some 17), (59, _, some 19), (55, _, some 15)] rfl rfl ⟨⟨rfl, rfl, rfl⟩, ⟨rfl, rfl, rfl⟩, ⟨rfl, rfl, rfl⟩, trivial⟩ (fun ext => TL.on rfl rfl rfl (by first | rfl | exact decide_eq_false (by omega) | (simp; omega)) <| TL.bin hF rfl rfl rfl rfl TL.fin) ?_
      refine DR.stepV [_, _, _, _, _, _, _, _, _, _, _, _, _, _, _, _, _, _, _, _, _, _] rfl [(55, _, some 15), (60, _, some 20)] rfl rfl ⟨⟨rfl, rfl, rfl⟩, ⟨rfl, rfl, rfl⟩, trivial⟩ (fun ext => TL.pickF hF rfl (by first | rfl | exact decide_eq_false (by omega) | (simp; omega)) rfl rfl TL.fin) ?_
      refine DR.stepV [_, _, _, _, _, _, _, _, _, _, _, _, _, _, _, _, _, _, _, _, _, _, _] rfl [(61, _, some 21)] rfl rfl ⟨⟨rfl, rfl, rfl⟩, trivial⟩ (fun ext => TL.move hF rfl rfl TL.fin) ?_
      refine DR.stepV [_, _, _, _, _, _, _, _, _, _, _, _, _, _, _, _, _, _, _, _, _, _, _, _] rfl [(11, _, none), (62, _, some 22)] rfl rfl ⟨⟨rfl, by kernel_rfl⟩, ⟨rfl, rfl, rfl⟩, trivial⟩ (fun ext => TL.on rfl rfl rfl (by first | rfl | exact decide_eq_false (by omega) | (simp; omega)) <| TL.move hF rfl rfl TL.fin) ?_
      refine DR.stepV [_, _, _, _, _, _, _, _, _, _, _, _, _, _, _, _, _, _, _, _, _, _, _, _, _] rfl [(63, _, some 23), (62, _, some 22)] rfl rfl ⟨⟨rfl, rfl, rfl⟩, ⟨rfl, rfl, rfl⟩, trivial⟩ (fun ext => TL.on rfl rfl rfl (by first | rfl | exact decide_eq_false (by omega) | (simp; omega)) <| TL.bin hF rfl rfl rfl rfl TL.fin) ?_
      refine DR.stepV [_, _, _, _, _, _, _, _, _, _, _, _, _, _, _, _, _, _, _, _, _, _, _, _, _, _] rfl [(64, _, some 24), (62, _, some 22)] rfl rfl ⟨⟨rfl, rfl, rfl⟩, ⟨rfl, rfl, rfl⟩, trivial⟩ (fun ext => TL.on rfl rfl rfl (by first | rfl | exact decide_eq_false (by omega) | (simp; omega)) <| TL.move hF rfl rfl TL.fin) ?_
      refine DR.stepV [_, _, _, _, _, _, _, _, _, _, _, _, _, _, _, _, _, _, _, _, _, _, _, _, _, _, _] rfl [(9, _, none), (65, _, some 25)] rfl rfl ⟨⟨rfl, by kernel_rfl⟩, ⟨rfl, rfl, rfl⟩, trivial⟩ (fun ext => TL.off hF rfl rfl rfl (by first | rfl | exact decide_eq_false (by omega) | (simp; omega)) rfl TL.fin) ?_
      refine DR.stepV [_, _, _, _, _, _, _, _, _, _, _, _, _, _, _, _, _, _, _, _, _, _, _, _, _, _, _, _] rfl [(11, _, none), (65, _, some 25)] rfl rfl ⟨⟨rfl, by kernel_rfl⟩, ⟨rfl, rfl, rfl⟩, trivial⟩ (fun ext => TL.off hF rfl rfl rfl (by first | rfl | exact decide_eq_false (by omega) | (simp; omega)) rfl TL.fin) ?_
      refine DR.stepV [_, _, _, _, _, _, _, _, _, _, _, _, _, _, _, _, _, _, _, _, _, _, _, _, _, _, _, _, _] rfl [(67, _, some 27), (65, _, some 25)] rfl rfl ⟨⟨rfl, rfl, rfl⟩, ⟨rfl, rfl, rfl⟩, trivial⟩ (fun ext => TL.off hF rfl rfl rfl (by first | rfl | exact decide_eq_false (by omega) | (simp; omega)) rfl TL.fin) ?_
      refine DR.stepV [_, _, _, _, _, _, _, _, _, _, _, _, _, _, _, _, _, _, _, _, _, _, _, _, _, _, _, _, _, _] rfl [(66, _, some 26), (68, _, some 28), (65, _, some 25)] rfl rfl ⟨⟨rfl, rfl, rfl⟩, ⟨rfl, rfl, rfl⟩, ⟨rfl, rfl, rfl⟩, trivial⟩ (fun ext => TL.off hF rfl rfl rfl (by first | rfl | exact decide_eq_false (by omega) | (simp; omega)) rfl TL.fin) ?_
      refine DR.stepV [_, _, _, _, _, _, _, _, _, _, _, _, _, _, _, _, _, _, _, _, _, _, _, _, _, _, _, _, _, _, _] rfl [(69, _, some 29), (65, _, some 25)] rfl rfl ⟨⟨rfl, rfl, rfl⟩, ⟨rfl, rfl, rfl⟩, trivial⟩ (fun ext => TL.off hF rfl rfl rfl (by first | rfl | exact decide_eq_false (by omega) | (simp; omega)) rfl TL.fin) ?_
      refine DR.stepV [_, _, _, _, _, _, _, _, _, _, _, _, _, _, _, _, _, _, _, _, _, _, _, _, _, _, _, _, _, _, _, _] rfl [(70, _, some 30), (65, _, some 25)] rfl rfl ⟨⟨rfl, rfl, rfl⟩, ⟨rfl, rfl, rfl⟩, trivial⟩ (fun ext => TL.off hF rfl rfl rfl (by first | rfl | exact decide_eq_false (by omega) | (simp; omega)) rfl TL.fin) ?_
      refine DR.stepV [_, _, _, _, _, _, _, _, _, _, _, _, _, _, _, _, _, _, _, _, _, _, _, _, _, _, _, _, _, _, _, _, _] rfl [(12, _, none), (65, _, some 25)] rfl rfl ⟨⟨rfl, by kernel_rfl⟩, ⟨rfl, rfl, rfl⟩, trivial⟩ (fun ext => TL.off hF rfl rfl rfl (by first | rfl | exact decide_eq_false (by omega) | (simp; omega)) rfl TL.fin) ?_
      refine DR.stepV [_, _, _, _, _, _, _, _, _, _, _, _, _, _, _, _, _, _, _, _, _, _, _, _, _, _, _, _, _, _, _, _, _, _] rfl [(72, _, some 32), (65, _, some 25)] rfl rfl ⟨⟨rfl, rfl, rfl⟩, ⟨rfl, rfl, rfl⟩, trivial⟩ (fun ext => TL.off hF rfl rfl rfl (by first | rfl | exact decide_eq_false (by omega) | (simp; omega)) rfl TL.fin) ?_
      refine DR.done [(73, _), (72, _), (71, _), (70, _), (69, _), (68, _), (67, _), (66, _), (65, _), (64, _), (63, _), (62, _), (61, _), (60, _), (59, _), (58, _), (57, _), (56, _), (55, _), (54, _), (53, _), (52, _), (51, _), (50, _), (49, _), (48, _), (47, _), (46, _), (45, _), (44, _), (43, _), (42, _), (41, _), (40, _)] [_, _, _] mixed (by kernel_rfl) (by kernel_rfl) (by kernel_rfl) rfl rfl ?_
      refine TL.off hF rfl rfl rfl (by first | rfl | exact decide_eq_false (by omega) | (simp; omega)) rfl ?_
      refine TL.on rfl rfl rfl (by first | rfl | exact decide_eq_false (by omega) | (simp; omega)) ?_
      refine TL.pickF hF rfl (by first | rfl | exact decide_eq_false (by omega) | (simp; omega)) rfl rfl ?_
      refine TL.pickF hF rfl (by first | rfl | exact decide_eq_false (by omega) | (simp; omega)) rfl rfl ?_
      refine TL.nil ?_
      refine TQ.then_n ?_
      refine T.cond_f rfl rfl ?_
      refine T.skip ?_
      refine TQ.then_n ?_
      refine T.seq ?_
      refine T.region ?_
      refine TL.move hF rfl rfl ?_
      refine TL.move hF rfl rfl ?_
      refine TL.slice hF (i := k) (j := D.length) rfl rfl rfl (by omega) (by omega) rfl ?_
      refine TL.len hF rfl rfl ?_
      refine TL.move hF rfl rfl ?_
      refine TL.nil ?_
      refine TQ.then_n ?_
      refine T.block ?_
      have hd2 : Row S3 w3 [] (if dc = k then da else da.map (·.add (k * 4))) ((D.drop k).flatMap DoneD.cells) := hd.cutF dcl hdc
      have hdl2 : (D.drop k).length = D.length - k := by simp
      refine T.loop (ι := Nat) (fun j => j ≤ (D.drop k).length) (fun j => [(6, .bool false), (7, .slice la l.length lc), (8, .slice ia' all.length ic), (9, .slice da D.length dc), (33, .slice da D.length dc), (34, .int .i64 (D.length : Int)), (35, .int .i64 (k : Int)), (12, ptr b12), (79, .slice (if dc = k then da else da.map (·.add (k * 4))) (D.length - k) (dc - k)), (80, .int .i64 ((D.length - k : Nat) : Int)), (81, .int .i64 (j : Int))]) (fun _ => [[(b12, Obj.cells (D[k]'hkl).cells.toArray 53 (0, 0))]]) (fun j => (D.drop k).length - j) 0 (Nat.zero_le _) ⟨rfl, rfl, rfl, rfl, rfl, rfl, rfl, rfl, rfl, rfl, rfl, trivial⟩ rfl ?_
      intro j hj
      refine T.seq ?_
      refine T.region ?_
      refine TL.bin hF rfl rfl rfl rfl ?_
      refine TL.nil ?_
      refine TQ.then_n ?_
      refine T.seq ?_
      first | refine T.cond_d rfl (fun ht82 => ?_) (fun ht82 => ?_) | refine T.cond _ rfl (fun ht82 => ?_) (fun ht82 => ?_)
      · refine T.skip ?_
        refine TQ.then_n ?_
        refine T.seq ?_
        refine T.block ?_
        refine T.seq ?_
        refine T.region ?_
        refine TL.indexAddr hF rfl rfl (hd2.tad dcl (by decide) (i := j) (by omega)) (by omega) (by omega) rfl ?_
        refine TL.loadA hF ((D.drop k)[j]'(by omega)).cells rfl rfl (hd2.ro.tabA dcl (i := j) (by omega)) rfl ?_
        refine TL.alloc hF rfl (fun b14 => ?_)
        refine TL.storeAI hF ((D.drop k)[j]'(by omega)).cells 0 rfl rfl rfl rfl (dcells1 _) (by simp [Value.cells, dcl]) ?_
        refine TL.nil ?_
        refine TQ.then_n ?_
        refine T.seq ?_
        refine T.region ?_
        refine TL.move hF rfl rfl ?_
        refine TL.fieldAddr hF rfl rfl ?_
        refine TL.load hF rfl (by first | exact At.own' (i := 0) rfl rfl | exact At.own' (i := 1) rfl rfl | exact At.own' (i := 2) rfl rfl | exact At.own' (i := 3) rfl rfl | exact At.own' (i := 4) rfl rfl | exact At.own' (i := 5) rfl rfl | exact At.own' (i := 6) rfl rfl | exact At.own' (i := 7) rfl rfl | exact At.own' (i := 8) rfl rfl | exact At.own' (i := 9) rfl rfl | exact At.own' (i := 10) rfl rfl | exact At.own' (i := 11) rfl rfl | exact At.own' (i := 12) rfl rfl) rfl ?_
        refine TL.indexAddr hF rfl rfl (hn.ad (i := (D[k].node).toNat) (by omega)) (by omega) (by omega) rfl ?_
        refine TL.fieldAddr hF rfl rfl ?_
        have hnl : (D[k].node).toNat < l.length := by omega
        have hrow := hn.frow hnl
        have hfew := hok.few _ hnl
        refine TL.load hF rfl (v := .slice (l[(D[k].node).toNat]).fa (l[(D[k].node).toNat]).fr.length (l[(D[k].node).toNat]).fc) (hn.ro.at (i := (D[k].node).toNat) hnl 2 rfl) rfl ?_
        refine TL.len hF rfl rfl ?_
        refine TL.move hF rfl rfl ?_
        refine TL.nil ?_
        refine TQ.then_n ?_
        refine T.block ?_
        have hjl : j < (D.drop k).length := by omega
        generalize hND : l[(D[k].node).toNat] = nd0 at hrow hfew ⊢
        refine T.loop (ι := Nat) (fun z => z ≤ nd0.fr.length) (fun z => [(6, .bool false), (7, .slice la l.length lc), (8, .slice ia' all.length ic), (9, .slice da D.length dc), (33, .slice da D.length dc), (34, .int .i64 (D.length : Int)), (35, .int .i64 (k : Int)), (12, ptr b12), (79, .slice (if dc = k then da else da.map (·.add (k * 4))) (D.length - k) (dc - k)), (80, .int .i64 ((D.length - k : Nat) : Int)), (81, .int .i64 (j : Int)), (14, ptr b14), (90, .slice nd0.fa nd0.fr.length nd0.fc), (91, .int .i64 (nd0.fr.length : Int)), (92, .int .i64 (z : Int))]) (fun _ => [[(b14, Obj.cells ((D.drop k)[j]'hjl).cells.toArray 53 (0, 0))], [(b12, Obj.cells (D[k]'hkl).cells.toArray 53 (0, 0))]]) (fun z => nd0.fr.length - z) 0 (Nat.zero_le _) ⟨rfl, rfl, rfl, rfl, rfl, rfl, rfl, rfl, rfl, rfl, rfl, rfl, rfl, rfl, rfl, trivial⟩ rfl ?_
        intro z hz
        refine T.seq ?_
        refine T.region ?_
        refine TL.bin hF rfl rfl rfl rfl ?_
        refine TL.nil ?_
        refine TQ.then_n ?_
        refine T.seq ?_
        first | refine T.cond_d rfl (fun ht93 => ?_) (fun ht93 => ?_) | refine T.cond _ rfl (fun ht93 => ?_) (fun ht93 => ?_)
        · refine T.skip ?_
          refine TQ.then_n ?_
          refine T.seq ?_
          refine T.block ?_
          refine T.seq ?_
          refine T.region ?_
          refine TL.indexAddr hF rfl rfl (hrow.adi (i := z) (by rw [List.length_map]; omega)) (by omega) (by omega) rfl ?_
          have hzl : z < nd0.fr.length := by omega
          have hno : ¬ (((D.drop k)[j]).inst = D[k].inst ∧ ((D.drop k)[j]).node = nd0.fr[z]) := by
            rintro ⟨h1, h2⟩
            have hfz : nd0.fr[z] ∈ (nd l D[k].node.toNat).fr := by rw [nd_eq hnl, hND]; exact List.getElem_mem hzl
            rw [List.getElem_drop] at h1 h2
            by_cases hj0 : j = 0
            · subst hj0
              have hfo := hok.fr _ hnl _ (by rw [← nd_eq hnl]; exact hfz)
              simp only [Nat.add_zero] at h2
              omega
            · have := (hP k (k + j) _ _ (List.getElem?_eq_getElem hkl) (List.getElem?_eq_getElem (by omega)) (by omega)).2 h1
              rw [h2] at this
              exact this.2 hfz
          refine TL.load hF rfl (hrow.ro.int (i := z) (by omega)) rfl ?_
          refine TL.assign hF rfl rfl ?_
          refine TL.nil ?_
          refine TQ.then_n ?_
          refine T.seq ?_
          refine T.region ?_
          refine TL.fieldAddr hF rfl rfl ?_
          refine TL.load hF rfl (by first | exact At.own' (i := 0) rfl rfl | exact At.own' (i := 1) rfl rfl | exact At.own' (i := 2) rfl rfl | exact At.own' (i := 3) rfl rfl | exact At.own' (i := 4) rfl rfl | exact At.own' (i := 5) rfl rfl | exact At.own' (i := 6) rfl rfl | exact At.own' (i := 7) rfl rfl | exact At.own' (i := 8) rfl rfl | exact At.own' (i := 9) rfl rfl | exact At.own' (i := 10) rfl rfl | exact At.own' (i := 11) rfl rfl | exact At.own' (i := 12) rfl rfl) rfl ?_
          refine TL.fieldAddr hF rfl rfl ?_
          refine TL.load hF rfl (by first | exact At.own' (i := 0) rfl rfl | exact At.own' (i := 1) rfl rfl | exact At.own' (i := 2) rfl rfl | exact At.own' (i := 3) rfl rfl | exact At.own' (i := 4) rfl rfl | exact At.own' (i := 5) rfl rfl | exact At.own' (i := 6) rfl rfl | exact At.own' (i := 7) rfl rfl | exact At.own' (i := 8) rfl rfl | exact At.own' (i := 9) rfl rfl | exact At.own' (i := 10) rfl rfl | exact At.own' (i := 11) rfl rfl | exact At.own' (i := 12) rfl rfl) rfl ?_
          refine TL.bin hF rfl rfl rfl rfl ?_
          refine TL.move hF rfl rfl ?_
          refine TL.gb (t := 101) rfl (fun g16_101 => ?_) (fun g16_101 => ?_)
          · refine TL.on rfl rfl rfl g16_101 ?_
            refine TL.fieldAddr hF rfl rfl ?_
            refine TL.on rfl rfl rfl g16_101 ?_
            refine TL.load hF rfl (by first | exact At.own' (i := 0) rfl rfl | exact At.own' (i := 1) rfl rfl | exact At.own' (i := 2) rfl rfl | exact At.own' (i := 3) rfl rfl | exact At.own' (i := 4) rfl rfl | exact At.own' (i := 5) rfl rfl | exact At.own' (i := 6) rfl rfl | exact At.own' (i := 7) rfl rfl | exact At.own' (i := 8) rfl rfl | exact At.own' (i := 9) rfl rfl | exact At.own' (i := 10) rfl rfl | exact At.own' (i := 11) rfl rfl | exact At.own' (i := 12) rfl rfl) rfl ?_
            refine TL.on rfl rfl rfl g16_101 ?_
            refine TL.move hF rfl rfl ?_
            refine TL.on rfl rfl rfl g16_101 ?_
            refine TL.bin hF rfl rfl rfl rfl ?_
            refine TL.pickT hF rfl g16_101 rfl rfl ?_
            refine TL.nil ?_
            refine TQ.then_n ?_
            refine T.cond_f rfl (by first | rfl | exact decide_eq_false (fun h => hno ⟨of_decide_eq_true g16_101, h⟩)) ?_
            refine T.skip ?_
            refine TQ.block_n ?_
            refine TQ.then_n ?_
            refine T.region ?_
            refine TL.add hF rfl rfl (by omega) (by omega) rfl ?_
            refine TL.move hF rfl rfl ?_
            refine TL.nil ?_
            exact TQ.round (z + 1) (by omega) (by omega) ⟨rfl, rfl, rfl, rfl, rfl, rfl, rfl, rfl, rfl, rfl, rfl, rfl, rfl, rfl, rfl, trivial⟩ rfl
          · refine TL.off hF rfl rfl rfl g16_101 rfl ?_
            refine TL.off hF rfl rfl rfl g16_101 rfl ?_
            refine TL.off hF rfl rfl rfl g16_101 rfl ?_
            refine TL.off hF rfl rfl rfl g16_101 rfl ?_
            refine TL.pickF hF rfl g16_101 rfl rfl ?_
            refine TL.nil ?_
            refine TQ.then_n ?_
            refine T.cond_f rfl rfl ?_
            refine T.skip ?_
            refine TQ.block_n ?_
            refine TQ.then_n ?_
            refine T.region ?_
            refine TL.add hF rfl rfl (by omega) (by omega) rfl ?_
            refine TL.move hF rfl rfl ?_
            refine TL.nil ?_
            exact TQ.round (z + 1) (by omega) (by omega) ⟨rfl, rfl, rfl, rfl, rfl, rfl, rfl, rfl, rfl, rfl, rfl, rfl, rfl, rfl, rfl, trivial⟩ rfl
        · refine T.exit ?_
          refine TQ.then_x ?_
          refine TQ.then_x ?_
          refine TQ.block_x ?_
          refine TQ.block_n ?_
          refine TQ.then_n ?_
          refine T.region ?_
          refine TL.add hF rfl rfl (by omega) (by omega) rfl ?_
          refine TL.move hF rfl rfl ?_
          refine TL.nil ?_
          refine TQ.pop ?_
          exact TQ.round (j + 1) (by omega) (by omega) ⟨rfl, rfl, rfl, rfl, rfl, rfl, rfl, rfl, rfl, rfl, rfl, trivial⟩ rfl
      · refine T.exit ?_
        refine TQ.then_x ?_
        refine TQ.then_x ?_
        refine TQ.block_x ?_
        refine TQ.block_n ?_
        refine TQ.then_n ?_
        refine T.region ?_
        refine TL.add hF rfl rfl (by omega) (by omega) rfl ?_
        refine TL.move hF rfl rfl ?_
        refine TL.nil ?_
        refine TQ.pop ?_
        exact TQ.round (k + 1) (by omega) (by omega) ⟨rfl, rfl, rfl, rfl, rfl, rfl, rfl, trivial⟩ rfl
    · refine T.draw ?_
      refine DR.stepV [_] rfl [(12, _, none)] rfl rfl ⟨⟨rfl, by kernel_rfl⟩, trivial⟩ (fun ext => TL.fieldAddr hF rfl rfl TL.fin) ?_
      refine DR.stepV [_, _] rfl [(40, _, some 0)] rfl rfl ⟨⟨rfl, rfl, rfl⟩, trivial⟩ (fun ext => TL.load hF rfl (by first | exact At.own' (i := 0) rfl rfl | exact At.own' (i := 1) rfl rfl | exact At.own' (i := 2) rfl rfl | exact At.own' (i := 3) rfl rfl | exact At.own' (i := 4) rfl rfl | exact At.own' (i := 5) rfl rfl | exact At.own' (i := 6) rfl rfl | exact At.own' (i := 7) rfl rfl | exact At.own' (i := 8) rfl rfl | exact At.own' (i := 9) rfl rfl | exact At.own' (i := 10) rfl rfl | exact At.own' (i := 11) rfl rfl | exact At.own' (i := 12) rfl rfl) rfl TL.fin) ?_
      refine DR.stepV [_, _, _] rfl [(41, _, some 1)] rfl rfl ⟨⟨rfl, rfl, rfl⟩, trivial⟩ (fun ext => TL.bin hF rfl rfl rfl rfl TL.fin) ?_
      refine DR.stepV [_, _, _, _] rfl [(42, _, some 2)] rfl rfl ⟨⟨rfl, rfl, rfl⟩, trivial⟩ (fun ext => TL.move hF rfl rfl TL.fin) ?_
      refine DR.stepV [_, _, _, _, _] rfl [(12, _, none), (43, _, some 3)] rfl rfl ⟨⟨rfl, by kernel_rfl⟩, ⟨rfl, rfl, rfl⟩, trivial⟩ (fun ext => TL.on rfl rfl rfl (by first | rfl | exact decide_eq_false (by omega) | (simp; omega)) <| TL.fieldAddr hF rfl rfl TL.fin) ?_
      refine DR.stepV [_, _, _, _, _, _] rfl [(44, _, some 4), (43, _, some 3)] rfl rfl ⟨⟨rfl, rfl, rfl⟩, ⟨rfl, rfl, rfl⟩, trivial⟩ (fun ext => TL.on rfl rfl rfl (by first | rfl | exact decide_eq_false (by omega) | (simp; omega)) <| TL.load hF rfl (by first | exact At.own' (i := 0) rfl rfl | exact At.own' (i := 1) rfl rfl | exact At.own' (i := 2) rfl rfl | exact At.own' (i := 3) rfl rfl | exact At.own' (i := 4) rfl rfl | exact At.own' (i := 5) rfl rfl | exact At.own' (i := 6) rfl rfl | exact At.own' (i := 7) rfl rfl | exact At.own' (i := 8) rfl rfl | exact At.own' (i := 9) rfl rfl | exact At.own' (i := 10) rfl rfl | exact At.own' (i := 11) rfl rfl | exact At.own' (i := 12) rfl rfl) rfl TL.fin) ?_
      refine DR.stepV [_, _, _, _, _, _, _] rfl [(7, _, none), (43, _, some 3)] rfl rfl ⟨⟨rfl, by kernel_rfl⟩, ⟨rfl, rfl, rfl⟩, trivial⟩ (fun ext => TL.on rfl rfl rfl (by first | rfl | exact decide_eq_false (by omega) | (simp; omega)) <| TL.move hF rfl rfl TL.fin) ?_
      refine DR.stepV [_, _, _, _, _, _, _, _] rfl [(46, _, some 6), (43, _, some 3)] rfl rfl ⟨⟨rfl, rfl, rfl⟩, ⟨rfl, rfl, rfl⟩, trivial⟩ (fun ext => TL.on rfl rfl rfl (by first | rfl | exact decide_eq_false (by omega) | (simp; omega)) <| TL.len hF rfl rfl TL.fin) ?_
      refine DR.stepV [_, _, _, _, _, _, _, _, _] rfl [(45, _, some 5), (47, _, some 7), (43, _, some 3)] rfl rfl ⟨⟨rfl, rfl, rfl⟩, ⟨rfl, rfl, rfl⟩, ⟨rfl, rfl, rfl⟩, trivial⟩ (fun ext => TL.on rfl rfl rfl (by first | rfl | exact decide_eq_false (by omega) | (simp; omega)) <| TL.bin hF rfl rfl rfl rfl TL.fin) ?_
      refine DR.stepV [_, _, _, _, _, _, _, _, _, _] rfl [(43, _, some 3), (48, _, some 8)] rfl rfl ⟨⟨rfl, rfl, rfl⟩, ⟨rfl, rfl, rfl⟩, trivial⟩ (fun ext => TL.pickF hF rfl (by first | rfl | exact decide_eq_false (by omega) | (simp; omega)) rfl rfl TL.fin) ?_
      refine DR.stepV [_, _, _, _, _, _, _, _, _, _, _] rfl [(49, _, some 9)] rfl rfl ⟨⟨rfl, rfl, rfl⟩, trivial⟩ (fun ext => TL.move hF rfl rfl TL.fin) ?_
      refine DR.stepV [_, _, _, _, _, _, _, _, _, _, _, _] rfl [(12, _, none), (50, _, some 10)] rfl rfl ⟨⟨rfl, by kernel_rfl⟩, ⟨rfl, rfl, rfl⟩, trivial⟩ (fun ext => TL.on rfl rfl rfl (by first | rfl | exact decide_eq_false (by omega) | (simp; omega)) <| TL.fieldAddr hF rfl rfl TL.fin) ?_
      refine DR.stepV [_, _, _, _, _, _, _, _, _, _, _, _, _] rfl [(51, _, some 11), (50, _, some 10)] rfl rfl ⟨⟨rfl, rfl, rfl⟩, ⟨rfl, rfl, rfl⟩, trivial⟩ (fun ext => TL.on rfl rfl rfl (by first | rfl | exact decide_eq_false (by omega) | (simp; omega)) <| TL.load hF rfl (by first | exact At.own' (i := 0) rfl rfl | exact At.own' (i := 1) rfl rfl | exact At.own' (i := 2) rfl rfl | exact At.own' (i := 3) rfl rfl | exact At.own' (i := 4) rfl rfl | exact At.own' (i := 5) rfl rfl | exact At.own' (i := 6) rfl rfl | exact At.own' (i := 7) rfl rfl | exact At.own' (i := 8) rfl rfl | exact At.own' (i := 9) rfl rfl | exact At.own' (i := 10) rfl rfl | exact At.own' (i := 11) rfl rfl | exact At.own' (i := 12) rfl rfl) rfl TL.fin) ?_
      refine DR.stepV [_, _, _, _, _, _, _, _, _, _, _, _, _, _] rfl [(52, _, some 12), (50, _, some 10)] rfl rfl ⟨⟨rfl, rfl, rfl⟩, ⟨rfl, rfl, rfl⟩, trivial⟩ (fun ext => TL.on rfl rfl rfl (by first | rfl | exact decide_eq_false (by omega) | (simp; omega)) <| TL.bin hF rfl rfl rfl rfl TL.fin) ?_
      refine DR.stepV [_, _, _, _, _, _, _, _, _, _, _, _, _, _, _] rfl [(50, _, some 10), (53, _, some 13)] rfl rfl ⟨⟨rfl, rfl, rfl⟩, ⟨rfl, rfl, rfl⟩, trivial⟩ (fun ext => TL.pickF hF rfl (by first | rfl | exact decide_eq_false (by omega) | (simp; omega)) rfl rfl TL.fin) ?_
      refine DR.stepV [_, _, _, _, _, _, _, _, _, _, _, _, _, _, _, _] rfl [(54, _, some 14)] rfl rfl ⟨⟨rfl, rfl, rfl⟩, trivial⟩ (fun ext => TL.move hF rfl rfl TL.fin) ?_
      refine DR.stepV [_, _, _, _, _, _, _, _, _, _, _, _, _, _, _, _, _] rfl [(12, _, none), (55, _, some 15)] rfl rfl ⟨⟨rfl, by kernel_rfl⟩, ⟨rfl, rfl, rfl⟩, trivial⟩ (fun ext => TL.on rfl rfl rfl (by first | rfl | exact decide_eq_false (by omega) | (simp; omega)) <| TL.fieldAddr hF rfl rfl TL.fin) ?_
      refine DR.stepV [_, _, _, _, _, _, _, _, _, _, _, _, _, _, _, _, _, _] rfl [(56, _, some 16), (55, _, some 15)] rfl rfl ⟨⟨rfl, rfl, rfl⟩, ⟨rfl, rfl, rfl⟩, trivial⟩ (fun ext => TL.on rfl rfl rfl (by first | rfl | exact decide_eq_false (by omega) | (simp; omega)) <| TL.load hF rfl (by first | exact At.own' (i := 0) rfl rfl | exact At.own' (i := 1) rfl rfl | exact At.own' (i := 2) rfl rfl | exact At.own' (i := 3) rfl rfl | exact At.own' (i := 4) rfl rfl | exact At.own' (i := 5) rfl rfl | exact At.own' (i := 6) rfl rfl | exact At.own' (i := 7) rfl rfl | exact At.own' (i := 8) rfl rfl | exact At.own' (i := 9) rfl rfl | exact At.own' (i := 10) rfl rfl | exact At.own' (i := 11) rfl rfl | exact At.own' (i := 12) rfl rfl) rfl TL.fin) ?_
      refine DR.stepV [_, _, _, _, _, _, _, _, _, _, _, _, _, _, _, _, _, _, _] rfl [(8, _, none), (55, _, some 15)] rfl rfl ⟨⟨rfl, by kernel_rfl⟩, ⟨rfl, rfl, rfl⟩, trivial⟩ (fun ext => TL.on rfl rfl rfl (by first | rfl | exact decide_eq_false (by omega) | (simp; omega)) <| TL.move hF rfl rfl TL.fin) ?_
      refine DR.stepV [_, _, _, _, _, _, _, _, _, _, _, _, _, _, _, _, _, _, _, _] rfl [(58, _, some 18), (55, _, some 15)] rfl rfl ⟨⟨rfl, rfl, rfl⟩, ⟨rfl, rfl, rfl⟩, trivial⟩ (fun ext => TL.on rfl rfl rfl (by first | rfl | exact decide_eq_false (by omega) | (simp; omega)) <| TL.len hF rfl rfl TL.fin) ?_
      refine DR.stepV [_, _, _, _, _, _, _, _, _, _, _, _, _, _, _, _, _, _, _, _, _] rfl [(57, _, some 17), (59, _, some 19), (55, _, some 15)] rfl rfl ⟨⟨rfl, rfl, rfl⟩, ⟨rfl, rfl, rfl⟩, ⟨rfl, rfl, rfl⟩, trivial⟩ (fun ext => TL.on rfl rfl rfl (by first | rfl | exact decide_eq_false (by omega) | (simp; omega)) <| TL.bin hF rfl rfl rfl rfl TL.fin) ?_
      refine DR.stepV [_, _, _, _, _, _, _, _, _, _, _, _, _, _, _, _, _, _, _, _, _, _] rfl [(55, _, some 15), (60, _, some 20)] rfl rfl ⟨⟨rfl, rfl, rfl⟩, ⟨rfl, rfl, rfl⟩, trivial⟩ (fun ext => TL.pickF hF rfl (by first | rfl | exact decide_eq_false (by omega) | (simp; omega)) rfl rfl TL.fin) ?_
      refine DR.stepV [_, _, _, _, _, _, _, _, _, _, _, _, _, _, _, _, _, _, _, _, _, _, _] rfl [(61, _, some 21)] rfl rfl ⟨⟨rfl, rfl, rfl⟩, trivial⟩ (fun ext => TL.move hF rfl rfl TL.fin) ?_
      refine DR.stepV [_, _, _, _, _, _, _, _, _, _, _, _, _, _, _, _, _, _, _, _, _, _, _, _] rfl [(11, _, none), (62, _, some 22)] rfl rfl ⟨⟨rfl, by kernel_rfl⟩, ⟨rfl, rfl, rfl⟩, trivial⟩ (fun ext => TL.on rfl rfl rfl (by first | rfl | exact decide_eq_false (by omega) | (simp; omega)) <| TL.move hF rfl rfl TL.fin) ?_
      refine DR.stepV [_, _, _, _, _, _, _, _, _, _, _, _, _, _, _, _, _, _, _, _, _, _, _, _, _] rfl [(63, _, some 23), (62, _, some 22)] rfl rfl ⟨⟨rfl, rfl, rfl⟩, ⟨rfl, rfl, rfl⟩, trivial⟩ (fun ext => TL.on rfl rfl rfl (by first | rfl | exact decide_eq_false (by omega) | (simp; omega)) <| TL.bin hF rfl rfl rfl rfl TL.fin) ?_
      refine DR.stepV [_, _, _, _, _, _, _, _, _, _, _, _, _, _, _, _, _, _, _, _, _, _, _, _, _, _] rfl [(64, _, some 24), (62, _, some 22)] rfl rfl ⟨⟨rfl, rfl, rfl⟩, ⟨rfl, rfl, rfl⟩, trivial⟩ (fun ext => TL.on rfl rfl rfl (by first | rfl | exact decide_eq_false (by omega) | (simp; omega)) <| TL.move hF rfl rfl TL.fin) ?_
      refine DR.stepV [_, _, _, _, _, _, _, _, _, _, _, _, _, _, _, _, _, _, _, _, _, _, _, _, _, _, _] rfl [(9, _, none), (65, _, some 25)] rfl rfl ⟨⟨rfl, by kernel_rfl⟩, ⟨rfl, rfl, rfl⟩, trivial⟩ (fun ext => TL.on rfl rfl rfl (decide_eq_true (by omega)) <| TL.move hF rfl rfl TL.fin) ?_
      refine DR.stepV [_, _, _, _, _, _, _, _, _, _, _, _, _, _, _, _, _, _, _, _, _, _, _, _, _, _, _, _] rfl [(11, _, none), (65, _, some 25)] rfl rfl ⟨⟨rfl, by kernel_rfl⟩, ⟨rfl, rfl, rfl⟩, trivial⟩ (fun ext => TL.on rfl rfl rfl (decide_eq_true (by omega)) <| TL.move hF rfl rfl TL.fin) ?_
      refine DR.stepV [_, _, _, _, _, _, _, _, _, _, _, _, _, _, _, _, _, _, _, _, _, _, _, _, _, _, _, _, _] rfl [(67, _, some 27), (65, _, some 25)] rfl rfl ⟨⟨rfl, rfl, rfl⟩, ⟨rfl, rfl, rfl⟩, trivial⟩ (fun ext => TL.on rfl rfl rfl (decide_eq_true (by omega)) <| TL.sub hF rfl rfl (by omega) (by omega) rfl TL.fin) ?_
      refine DR.stepV [_, _, _, _, _, _, _, _, _, _, _, _, _, _, _, _, _, _, _, _, _, _, _, _, _, _, _, _, _, _] rfl [(66, _, some 26), (68, _, some 28), (65, _, some 25)] rfl rfl ⟨⟨rfl, rfl, rfl⟩, ⟨rfl, rfl, rfl⟩, ⟨rfl, rfl, rfl⟩, trivial⟩ (fun ext => TL.on rfl rfl rfl (decide_eq_true (by omega)) <| TL.indexAddr hF rfl rfl (hd.tad dcl (by decide) (i := k - 1) (by omega)) (by omega) (by omega) rfl TL.fin) ?_
      refine DR.stepV [_, _, _, _, _, _, _, _, _, _, _, _, _, _, _, _, _, _, _, _, _, _, _, _, _, _, _, _, _, _, _] rfl [(69, _, some 29), (65, _, some 25)] rfl rfl ⟨⟨rfl, rfl, rfl⟩, ⟨rfl, rfl, rfl⟩, trivial⟩ (fun ext => TL.on rfl rfl rfl (decide_eq_true (by omega)) <| TL.fieldAddr hF rfl rfl TL.fin) ?_
      refine DR.stepV [_, _, _, _, _, _, _, _, _, _, _, _, _, _, _, _, _, _, _, _, _, _, _, _, _, _, _, _, _, _, _, _] rfl [(70, _, some 30), (65, _, some 25)] rfl rfl ⟨⟨rfl, rfl, rfl⟩, ⟨rfl, rfl, rfl⟩, trivial⟩ (fun ext => TL.on rfl rfl rfl (decide_eq_true (by omega)) <| TL.load hF rfl (v := .int .i64 (D[k - 1]'(by omega)).inst) (by rw [show ((k : Int) - 1).toNat = k - 1 by omega]; exact (hd.tab dcl (i := k - 1) (by omega) 0 rfl).up (by simp)) rfl TL.fin) ?_
      refine DR.stepV [_, _, _, _, _, _, _, _, _, _, _, _, _, _, _, _, _, _, _, _, _, _, _, _, _, _, _, _, _, _, _, _, _] rfl [(12, _, none), (65, _, some 25)] rfl rfl ⟨⟨rfl, by kernel_rfl⟩, ⟨rfl, rfl, rfl⟩, trivial⟩ (fun ext => TL.on rfl rfl rfl (decide_eq_true (by omega)) <| TL.fieldAddr hF rfl rfl TL.fin) ?_
      refine DR.stepV [_, _, _, _, _, _, _, _, _, _, _, _, _, _, _, _, _, _, _, _, _, _, _, _, _, _, _, _, _, _, _, _, _, _] rfl [(72, _, some 32), (65, _, some 25)] rfl rfl ⟨⟨rfl, rfl, rfl⟩, ⟨rfl, rfl, rfl⟩, trivial⟩ (fun ext => TL.on rfl rfl rfl (decide_eq_true (by omega)) <| TL.load hF rfl (by first | exact At.own' (i := 0) rfl rfl | exact At.own' (i := 1) rfl rfl | exact At.own' (i := 2) rfl rfl | exact At.own' (i := 3) rfl rfl | exact At.own' (i := 4) rfl rfl | exact At.own' (i := 5) rfl rfl | exact At.own' (i := 6) rfl rfl | exact At.own' (i := 7) rfl rfl | exact At.own' (i := 8) rfl rfl | exact At.own' (i := 9) rfl rfl | exact At.own' (i := 10) rfl rfl | exact At.own' (i := 11) rfl rfl | exact At.own' (i := 12) rfl rfl) rfl TL.fin) ?_
      refine DR.done [(73, _), (72, _), (71, _), (70, _), (69, _), (68, _), (67, _), (66, _), (65, _), (64, _), (63, _), (62, _), (61, _), (60, _), (59, _), (58, _), (57, _), (56, _), (55, _), (54, _), (53, _), (52, _), (51, _), (50, _), (49, _), (48, _), (47, _), (46, _), (45, _), (44, _), (43, _), (42, _), (41, _), (40, _)] [_, _, _] mixed (by kernel_rfl) (by kernel_rfl) (by kernel_rfl) rfl rfl ?_
      refine TL.on rfl rfl rfl (decide_eq_true (by omega)) ?_
      refine TL.bin hF rfl rfl rfl rfl ?_
      refine TL.on rfl rfl rfl (by first | rfl | exact decide_eq_false (by omega) | (simp; omega)) ?_
      refine TL.pickT hF rfl (decide_eq_true (by omega)) rfl rfl ?_
      refine TL.pickF hF rfl (by first | rfl | exact decide_eq_false (by omega) | (simp; omega)) rfl rfl ?_
      refine TL.nil ?_
      refine TQ.then_n ?_
      refine T.cond_f rfl (by first | rfl | exact decide_eq_false (by omega) | (simp; omega)) ?_
      refine T.skip ?_
      refine TQ.then_n ?_
      refine T.seq ?_
      refine T.region ?_
      refine TL.move hF rfl rfl ?_
      refine TL.move hF rfl rfl ?_
      refine TL.slice hF (i := k) (j := D.length) rfl rfl rfl (by omega) (by omega) rfl ?_
      refine TL.len hF rfl rfl ?_
      refine TL.move hF rfl rfl ?_
      refine TL.nil ?_
      refine TQ.then_n ?_
      refine T.block ?_
      have hd2 : Row S3 w3 [] (if dc = k then da else da.map (·.add (k * 4))) ((D.drop k).flatMap DoneD.cells) := hd.cutF dcl hdc
      have hdl2 : (D.drop k).length = D.length - k := by simp
      refine T.loop (ι := Nat) (fun j => j ≤ (D.drop k).length) (fun j => [(6, .bool false), (7, .slice la l.length lc), (8, .slice ia' all.length ic), (9, .slice da D.length dc), (33, .slice da D.length dc), (34, .int .i64 (D.length : Int)), (35, .int .i64 (k : Int)), (12, ptr b12), (79, .slice (if dc = k then da else da.map (·.add (k * 4))) (D.length - k) (dc - k)), (80, .int .i64 ((D.length - k : Nat) : Int)), (81, .int .i64 (j : Int))]) (fun _ => [[(b12, Obj.cells (D[k]'hkl).cells.toArray 53 (0, 0))]]) (fun j => (D.drop k).length - j) 0 (Nat.zero_le _) ⟨rfl, rfl, rfl, rfl, rfl, rfl, rfl, rfl, rfl, rfl, rfl, trivial⟩ rfl ?_
      intro j hj
      refine T.seq ?_
      refine T.region ?_
      refine TL.bin hF rfl rfl rfl rfl ?_
      refine TL.nil ?_
      refine TQ.then_n ?_
      refine T.seq ?_
      first | refine T.cond_d rfl (fun ht82 => ?_) (fun ht82 => ?_) | refine T.cond _ rfl (fun ht82 => ?_) (fun ht82 => ?_)
      · refine T.skip ?_
        refine TQ.then_n ?_
        refine T.seq ?_
        refine T.block ?_
        refine T.seq ?_
        refine T.region ?_
        refine TL.indexAddr hF rfl rfl (hd2.tad dcl (by decide) (i := j) (by omega)) (by omega) (by omega) rfl ?_
        refine TL.loadA hF ((D.drop k)[j]'(by omega)).cells rfl rfl (hd2.ro.tabA dcl (i := j) (by omega)) rfl ?_
        refine TL.alloc hF rfl (fun b14 => ?_)
        refine TL.storeAI hF ((D.drop k)[j]'(by omega)).cells 0 rfl rfl rfl rfl (dcells1 _) (by simp [Value.cells, dcl]) ?_
        refine TL.nil ?_
        refine TQ.then_n ?_
        refine T.seq ?_
        refine T.region ?_
        refine TL.move hF rfl rfl ?_
        refine TL.fieldAddr hF rfl rfl ?_
        refine TL.load hF rfl (by first | exact At.own' (i := 0) rfl rfl | exact At.own' (i := 1) rfl rfl | exact At.own' (i := 2) rfl rfl | exact At.own' (i := 3) rfl rfl | exact At.own' (i := 4) rfl rfl | exact At.own' (i := 5) rfl rfl | exact At.own' (i := 6) rfl rfl | exact At.own' (i := 7) rfl rfl | exact At.own' (i := 8) rfl rfl | exact At.own' (i := 9) rfl rfl | exact At.own' (i := 10) rfl rfl | exact At.own' (i := 11) rfl rfl | exact At.own' (i := 12) rfl rfl) rfl ?_
        refine TL.indexAddr hF rfl rfl (hn.ad (i := (D[k].node).toNat) (by omega)) (by omega) (by omega) rfl ?_
        refine TL.fieldAddr hF rfl rfl ?_
        have hnl : (D[k].node).toNat < l.length := by omega
        have hrow := hn.frow hnl
        have hfew := hok.few _ hnl
        refine TL.load hF rfl (v := .slice (l[(D[k].node).toNat]).fa (l[(D[k].node).toNat]).fr.length (l[(D[k].node).toNat]).fc) (hn.ro.at (i := (D[k].node).toNat) hnl 2 rfl) rfl ?_
        refine TL.len hF rfl rfl ?_
        refine TL.move hF rfl rfl ?_
        refine TL.nil ?_
        refine TQ.then_n ?_
        refine T.block ?_
        have hjl : j < (D.drop k).length := by omega
        generalize hND : l[(D[k].node).toNat] = nd0 at hrow hfew ⊢
        refine T.loop (ι := Nat) (fun z => z ≤ nd0.fr.length) (fun z => [(6, .bool false), (7, .slice la l.length lc), (8, .slice ia' all.length ic), (9, .slice da D.length dc), (33, .slice da D.length dc), (34, .int .i64 (D.length : Int)), (35, .int .i64 (k : Int)), (12, ptr b12), (79, .slice (if dc = k then da else da.map (·.add (k * 4))) (D.length - k) (dc - k)), (80, .int .i64 ((D.length - k : Nat) : Int)), (81, .int .i64 (j : Int)), (14, ptr b14), (90, .slice nd0.fa nd0.fr.length nd0.fc), (91, .int .i64 (nd0.fr.length : Int)), (92, .int .i64 (z : Int))]) (fun _ => [[(b14, Obj.cells ((D.drop k)[j]'hjl).cells.toArray 53 (0, 0))], [(b12, Obj.cells (D[k]'hkl).cells.toArray 53 (0, 0))]]) (fun z => nd0.fr.length - z) 0 (Nat.zero_le _) ⟨rfl, rfl, rfl, rfl, rfl, rfl, rfl, rfl, rfl, rfl, rfl, rfl, rfl, rfl, rfl, trivial⟩ rfl ?_
        intro z hz
        refine T.seq ?_
        refine T.region ?_
        refine TL.bin hF rfl rfl rfl rfl ?_
        refine TL.nil ?_
        refine TQ.then_n ?_
        refine T.seq ?_
        first | refine T.cond_d rfl (fun ht93 => ?_) (fun ht93 => ?_) | refine T.cond _ rfl (fun ht93 => ?_) (fun ht93 => ?_)
        · refine T.skip ?_
          refine TQ.then_n ?_
          refine T.seq ?_
          refine T.block ?_
          refine T.seq ?_
          refine T.region ?_
          refine TL.indexAddr hF rfl rfl (hrow.adi (i := z) (by rw [List.length_map]; omega)) (by omega) (by omega) rfl ?_
          have hzl : z < nd0.fr.length := by omega
          have hno : ¬ (((D.drop k)[j]).inst = D[k].inst ∧ ((D.drop k)[j]).node = nd0.fr[z]) := by
            rintro ⟨h1, h2⟩
            have hfz : nd0.fr[z] ∈ (nd l D[k].node.toNat).fr := by rw [nd_eq hnl, hND]; exact List.getElem_mem hzl
            rw [List.getElem_drop] at h1 h2
            by_cases hj0 : j = 0
            · subst hj0
              have hfo := hok.fr _ hnl _ (by rw [← nd_eq hnl]; exact hfz)
              simp only [Nat.add_zero] at h2
              omega
            · have := (hP k (k + j) _ _ (List.getElem?_eq_getElem hkl) (List.getElem?_eq_getElem (by omega)) (by omega)).2 h1
              rw [h2] at this
              exact this.2 hfz
          refine TL.load hF rfl (hrow.ro.int (i := z) (by omega)) rfl ?_
          refine TL.assign hF rfl rfl ?_
          refine TL.nil ?_
          refine TQ.then_n ?_
          refine T.seq ?_
          refine T.region ?_
          refine TL.fieldAddr hF rfl rfl ?_
          refine TL.load hF rfl (by first | exact At.own' (i := 0) rfl rfl | exact At.own' (i := 1) rfl rfl | exact At.own' (i := 2) rfl rfl | exact At.own' (i := 3) rfl rfl | exact At.own' (i := 4) rfl rfl | exact At.own' (i := 5) rfl rfl | exact At.own' (i := 6) rfl rfl | exact At.own' (i := 7) rfl rfl | exact At.own' (i := 8) rfl rfl | exact At.own' (i := 9) rfl rfl | exact At.own' (i := 10) rfl rfl | exact At.own' (i := 11) rfl rfl | exact At.own' (i := 12) rfl rfl) rfl ?_
          refine TL.fieldAddr hF rfl rfl ?_
          refine TL.load hF rfl (by first | exact At.own' (i := 0) rfl rfl | exact At.own' (i := 1) rfl rfl | exact At.own' (i := 2) rfl rfl | exact At.own' (i := 3) rfl rfl | exact At.own' (i := 4) rfl rfl | exact At.own' (i := 5) rfl rfl | exact At.own' (i := 6) rfl rfl | exact At.own' (i := 7) rfl rfl | exact At.own' (i := 8) rfl rfl | exact At.own' (i := 9) rfl rfl | exact At.own' (i := 10) rfl rfl | exact At.own' (i := 11) rfl rfl | exact At.own' (i := 12) rfl rfl) rfl ?_
          refine TL.bin hF rfl rfl rfl rfl ?_
          refine TL.move hF rfl rfl ?_
          refine TL.gb (t := 101) rfl (fun g16_101 => ?_) (fun g16_101 => ?_)
          · refine TL.on rfl rfl rfl g16_101 ?_
            refine TL.fieldAddr hF rfl rfl ?_
            refine TL.on rfl rfl rfl g16_101 ?_
            refine TL.load hF rfl (by first | exact At.own' (i := 0) rfl rfl | exact At.own' (i := 1) rfl rfl | exact At.own' (i := 2) rfl rfl | exact At.own' (i := 3) rfl rfl | exact At.own' (i := 4) rfl rfl | exact At.own' (i := 5) rfl rfl | exact At.own' (i := 6) rfl rfl | exact At.own' (i := 7) rfl rfl | exact At.own' (i := 8) rfl rfl | exact At.own' (i := 9) rfl rfl | exact At.own' (i := 10) rfl rfl | exact At.own' (i := 11) rfl rfl | exact At.own' (i := 12) rfl rfl) rfl ?_
            refine TL.on rfl rfl rfl g16_101 ?_
            refine TL.move hF rfl rfl ?_
            refine TL.on rfl rfl rfl g16_101 ?_
            refine TL.bin hF rfl rfl rfl rfl ?_
            refine TL.pickT hF rfl g16_101 rfl rfl ?_
            refine TL.nil ?_
            refine TQ.then_n ?_
            refine T.cond_f rfl (by first | rfl | exact decide_eq_false (fun h => hno ⟨of_decide_eq_true g16_101, h⟩)) ?_
            refine T.skip ?_
            refine TQ.block_n ?_
            refine TQ.then_n ?_
            refine T.region ?_
            refine TL.add hF rfl rfl (by omega) (by omega) rfl ?_
            refine TL.move hF rfl rfl ?_
            refine TL.nil ?_
            exact TQ.round (z + 1) (by omega) (by omega) ⟨rfl, rfl, rfl, rfl, rfl, rfl, rfl, rfl, rfl, rfl, rfl, rfl, rfl, rfl, rfl, trivial⟩ rfl
          · refine TL.off hF rfl rfl rfl g16_101 rfl ?_
            refine TL.off hF rfl rfl rfl g16_101 rfl ?_
            refine TL.off hF rfl rfl rfl g16_101 rfl ?_
            refine TL.off hF rfl rfl rfl g16_101 rfl ?_
            refine TL.pickF hF rfl g16_101 rfl rfl ?_
            refine TL.nil ?_
            refine TQ.then_n ?_
            refine T.cond_f rfl rfl ?_
            refine T.skip ?_
            refine TQ.block_n ?_
            refine TQ.then_n ?_
            refine T.region ?_
            refine TL.add hF rfl rfl (by omega) (by omega) rfl ?_
            refine TL.move hF rfl rfl ?_
            refine TL.nil ?_
            exact TQ.round (z + 1) (by omega) (by omega) ⟨rfl, rfl, rfl, rfl, rfl, rfl, rfl, rfl, rfl, rfl, rfl, rfl, rfl, rfl, rfl, trivial⟩ rfl
        · refine T.exit ?_
          refine TQ.then_x ?_
          refine TQ.then_x ?_
          refine TQ.block_x ?_
          refine TQ.block_n ?_
          refine TQ.then_n ?_
          refine T.region ?_
          refine TL.add hF rfl rfl (by omega) (by omega) rfl ?_
          refine TL.move hF rfl rfl ?_
          refine TL.nil ?_
          refine TQ.pop ?_
          exact TQ.round (j + 1) (by omega) (by omega) ⟨rfl, rfl, rfl, rfl, rfl, rfl, rfl, rfl, rfl, rfl, rfl, trivial⟩ rfl
      · refine T.exit ?_
        refine TQ.then_x ?_
        refine TQ.then_x ?_
        refine TQ.block_x ?_
        refine TQ.block_n ?_
        refine TQ.then_n ?_
        refine T.region ?_
        refine TL.add hF rfl rfl (by omega) (by omega) rfl ?_
        refine TL.move hF rfl rfl ?_
        refine TL.nil ?_
        refine TQ.pop ?_
        exact TQ.round (k + 1) (by omega) (by omega) ⟨rfl, rfl, rfl, rfl, rfl, rfl, rfl, trivial⟩ rfl
  · refine T.exit ?_
    refine TQ.then_x ?_
    refine TQ.then_x ?_
    refine TQ.block_x ?_
    refine TQ.then_n ?_
    refine T.seq ?_
    refine T.region ?_
    refine TL.call hF (awake_fn hg) rfl rfl ?_
    rintro _ _ rfl
    refine TL.assign hF rfl rfl ?_
    refine TL.nil ?_
    refine TQ.then_n ?_
    refine T.ret ?_
    exact TQ.retsF [6] _ hb rfl rfl rfl (fun _ => rfl)
end Go.Proofs.YtefkmiomldhmjaaDoor
/- The law of words from scratch. -/
namespace Go.Proofs.YtefkmiomldhmjaaDoor
open Go.Sl
variable {S : Nat → Prop} {w0 : World} {η : Heap}
theorem told_wlen (l : List NodeD) (all : List InstD) (pick : List Int) : (toldS l all pick).2.2.length = all.length := allS_len l pick all 0 (startS l)
theorem told_w {l : List NodeD} {all : List InstD} {pick : List Int} {k : Nat} (hk : k < all.length) : (toldS l all pick).2.2[k]'(by rw [told_wlen]; exact hk) = (zAt l pick all k).2.2.W := by
  have e := told_at l pick all
  have : (toldS l all pick).2.2 = (List.range all.length).map fun q => (zAt l pick all q).2.2.W := by rw [e]
  simp only [this, List.getElem_map, List.getElem_range]
theorem asked_len (l : List NodeD) (all : List InstD) (pick : List Int) : (askedOf all (toldS l all pick).2.2).length = all.length := by
  unfold askedOf; rw [List.length_zipWith, told_wlen]; omega
theorem eager_len (l : List NodeD) (all : List InstD) (pick : List Int) : ((toldS l all pick).2.2.map (eagerOf l)).length = all.length := by rw [List.length_map, told_wlen]
theorem Rn.ask_word {l : List NodeD} {all : List InstD} (h : Rn l all) (pick : List Int) {k : Nat} (hk : k < all.length) {z : Int} (hz : z ∈ (ia all k).asks) : (0 ≤ z ∧ z < l.length) ∧ (zAt l pick all k).2.2.W z.toNat = VP l all (k + 1) z.toNat := by
  have ha := asksOk_get (instE_ok (h.io k hk)).2.2.2 hz
  refine ⟨ha, h.word pick hk ?_⟩
  by_cases h0 : (nd l z.toNat).op = 0
  · exact .inl h0
  · refine .inr (wantS_iff.2 ⟨h0, z.toNat, by omega, ?_, .refl _⟩)
    unfold isRoot
    rw [Bool.or_eq_true, decide_eq_true_eq]
    exact .inr (by rw [Int.toNat_of_nonneg ha.1]; exact hz)
theorem Rn.asked_at {l : List NodeD} {all : List InstD} (h : Rn l all) (pick : List Int) {k : Nat} (hk : k < all.length) : (askedOf all (toldS l all pick).2.2)[k]? = some ((all[k]).asks.map fun z => VP l all (k + 1) z.toNat) := by
  unfold askedOf
  rw [List.getElem?_eq_getElem (by rw [List.length_zipWith, told_wlen]; omega), List.getElem_zipWith, told_w hk]
  congr 1
  refine List.map_congr_left fun z hz => ?_
  rw [← ia_eq hk] at hz
  exact (h.ask_word pick hk hz).2
theorem Rn.eager_at {l : List NodeD} {all : List InstD} (h : Rn l all) (pick : List Int) {k : Nat} (hk : k < all.length) : ((toldS l all pick).2.2.map (eagerOf l))[k]? = some (((List.range l.length).filter fun i => (nd l i).eager).map (VP l all (k + 1))) := by
  rw [List.getElem?_eq_getElem (by rw [List.length_map, told_wlen]; exact hk), List.getElem_map, told_w hk]
  unfold eagerOf
  congr 1
  refine List.map_congr_left fun i hi => ?_
  obtain ⟨h1, h2⟩ := List.mem_filter.1 hi
  refine h.word pick hk ?_
  by_cases h0 : (nd l i).op = 0
  · exact .inl h0
  · exact .inr (wantS_iff.2 ⟨h0, i, List.mem_range.1 h1, by unfold isRoot; rw [h2]; rfl, .refl i⟩)
theorem Scratch_at {a : Option Addr} {l : List NodeD} {c : Nat} {all : List InstD} {k : Nat} {wa : Option Addr} {wc : Nat} {seg : Seg} (hg : Kinds S w0) (hn : Nodes S w0 [] a l) (hm : MadeOk l all) (hk : k ≤ all.length) (hw : Row S w0 [seg] wa (ints (inW l all k))) :
    Rt Tryd.prog 14 [.slice a l.length c, .slice wa (inW l all k).length wc].toArray S w0 (seg :: η) (fun v η' => ∃ a' cap' segs', v = .tuple #[.slice a' l.length cap', .int .i64 0] ∧ η' = seg :: (segs' ++ η) ∧ Row S w0 (seg :: segs') a' (ints ((List.range l.length).map (VP l all k)))) :=
  Rt.frame [seg] rfl fun S' w1 hz hb => by
    have hwl : (inW l all k).length < 2 ^ 63 := by have := inW_le l all k; have := hm.hi; omega
    have h := Scratch_prog (η := η) (c := c) (cw := wc) (hg.old hz) (hn.old hz) hm.len63.1 hm.len63.2.1 (hw.frz hz) hwl
    rw [scratch_VP hm.rn hm.valid hk] at h
    refine h.mono ?_
    rintro _ _ ⟨a', c', segs', rfl, rfl, hr⟩
    exact ⟨a', c', segs', by simp, by simp, hr.thaw hb⟩
theorem range_map_row {a : Option Addr} {n : Nat} {f : Nat → Int} (h : Row S w0 η a (ints ((List.range n).map f))) {i : Nat} (hi : i < n) : At S w0 η (sAt a (i * 1)) (.int .i64 (f i)) := by
  rw [Nat.mul_one]; exact h.cell i _ (by simp [ints, hi])

set_option maxHeartbeats 2000000 in
theorem SchedScratch_fn {a b : Option Addr} {xs ys : List Nat} {c d : Nat} (hg : Kinds S w0) (hx : Row S w0 [] a (n32 xs)) (hy : Row S w0 [] b (n32 ys)) (hxl : xs.length < 2 ^ 63) (hyl : ys.length < 2 ^ 63) (hxc : xs.length ≤ c) (hyc : ys.length ≤ d) (hxb : ∀ n ∈ xs, n < 4294967296) (hyb : ∀ n ∈ ys, n < 4294967296) {q : Option Addr} {zs : List Nat} {e : Nat} (hs : Row S w0 [] q (n16 zs)) (hsl : zs.length < 2 ^ 63) (hsc : zs.length ≤ e) (hsb : ∀ n ∈ zs, n < 65536) :
    Rt Tryd.prog 4 [.slice a xs.length c, .slice b ys.length d, .slice q zs.length e].toArray S w0 [] (fun v _ => v = .bool true) := by
  have hF := open_wide
  refine Rt.of (fn := Tryd.f4) Tryd.func4 rfl rfl ?_
  refine T.seq ?_
  refine T.region ?_
  refine TL.assign hF rfl rfl ?_
  refine TL.nil ?_
  refine TQ.then_n ?_
  refine T.seq ?_
  refine T.region ?_
  refine TL.move hF rfl rfl ?_
  refine TL.move hF rfl rfl ?_
  refine TL.call hF (made_fn hx hy hxl hyl hxc hyc hxb hyb) rfl rfl ?_
  rintro _ _ ⟨l, all, la, lc, lg, ia', ic, ig, ins, rfl, rfl, hm, hol, hoi, hfr, hir⟩
  have hb := Back.refl S w0
  have hn : Nodes S w0 (ig :: lg :: ins) la l := ⟨hol.row (by simp), fun x hx => (hfr x hx).up (fun z hz => by simp [hz])⟩
  have hi : Insts S w0 (ig :: lg :: ins) ia' all := ⟨hoi.row (by simp), fun x hx => (hir x hx).1.up (fun z hz => by simp [hz]), fun x hx => (hir x hx).2.up (fun z hz => by simp [hz])⟩
  have hlcap := osl_cap hol
  have hicap := osl_cap hoi
  clear hol hoi hfr hir
  refine TL.freeze (ig :: lg :: ins) rfl (fun S1 w1 hz1 => ?_)
  have hb := hb.frz hz1
  have hn := hn.frz hz1
  have hi := hi.frz hz1
  have hr := hm.rn
  have hok := hr.ok
  have hlen := hm.hi
  have halen := hm.al
  have hlo := hm.lo
  have hg := hg.old hz1
  have hs := hs.old hz1
  refine TL.move hF rfl rfl ?_
  refine TL.extract hF rfl rfl rfl ?_
  refine TL.extract hF rfl rfl rfl ?_
  refine TL.assign hF rfl rfl ?_
  refine TL.assign hF rfl rfl ?_
  refine TL.nil ?_
  refine TQ.then_n ?_
  refine T.seq ?_
  refine T.region ?_
  refine TL.move hF rfl rfl ?_
  refine TL.call hF (order_fn hs hsl hsc hsb) rfl rfl ?_
  rintro _ _ ⟨pa, pc, s2, rfl, rfl, hp⟩
  obtain ⟨hpl, hpq⟩ := pick_ok hsb
  generalize hpk : (zs.take 200).map (fun (n : Nat) => (n : Int)) = pick at hp hpl hpq ⊢
  have hck := hm.check hpl hpq
  refine TL.freeze [s2] rfl (fun S2 w2 hz2 => ?_)
  have hb := hb.frz hz2
  have hg := hg.old hz2
  have hn := hn.old hz2
  have hi := hi.old hz2
  have hp := hp.frz hz2
  refine TL.assign hF rfl rfl ?_
  refine TL.nil ?_
  refine TQ.then_n ?_
  refine T.seq ?_
  refine T.region ?_
  refine TL.move hF rfl rfl ?_
  refine TL.move hF rfl rfl ?_
  refine TL.move hF rfl rfl ?_
  refine TL.call hF (Run_made hg hn hi hp hm hck) rfl rfl ?_
  rintro _ _ ⟨da, dc, s3, rfl, rfl, hdc, hd⟩
  refine TL.freeze s3 rfl (fun S3 w3 hz3 => ?_)
  have hb := hb.frz hz3
  have hg := hg.old hz3
  have hn := hn.old hz3
  have hi := hi.old hz3
  have hp := hp.old hz3
  have hd := hd.frz hz3
  refine TL.move hF rfl rfl ?_
  refine TL.extract hF rfl rfl rfl ?_
  refine TL.extract hF rfl rfl rfl ?_
  refine TL.assign hF rfl rfl ?_
  refine TL.assign hF rfl rfl ?_
  refine TL.nil ?_
  refine TQ.then_n ?_
  refine T.seq ?_
  refine T.region ?_
  refine TL.move hF rfl rfl ?_
  refine TL.move hF rfl rfl ?_
  refine TL.move hF rfl rfl ?_
  refine TL.call hF (Asked_made hg hn hi hp hm hck) rfl rfl ?_
  rintro _ _ ⟨aa, ac, s4, rfl, rfl, hA⟩
  refine TL.freeze s4 rfl (fun S4 w4 hz4 => ?_)
  have hb := hb.frz hz4
  have hg := hg.old hz4
  have hn := hn.old hz4
  have hi := hi.old hz4
  have hp := hp.old hz4
  have hd := hd.old hz4
  have hA := hA.frz hz4
  refine TL.move hF rfl rfl ?_
  refine TL.extract hF rfl rfl rfl ?_
  refine TL.extract hF rfl rfl rfl ?_
  refine TL.assign hF rfl rfl ?_
  refine TL.assign hF rfl rfl ?_
  refine TL.nil ?_
  refine TQ.then_n ?_
  refine T.seq ?_
  refine T.region ?_
  refine TL.move hF rfl rfl ?_
  refine TL.move hF rfl rfl ?_
  refine TL.move hF rfl rfl ?_
  refine TL.call hF (Eager_made hg hn hi hp hm hck) rfl rfl ?_
  rintro _ _ ⟨ea, ec, s5, rfl, rfl, hE⟩
  refine TL.freeze s5 rfl (fun S5 w5 hz5 => ?_)
  have hb := hb.frz hz5
  have hg := hg.old hz5
  have hn := hn.old hz5
  have hi := hi.old hz5
  have hp := hp.old hz5
  have hd := hd.old hz5
  have hA := hA.old hz5
  have hE := hE.frz hz5
  have hEn := fun d hd => hr.entry pick (d := d) hd
  have hdl := told_dlen hm pick
  have hAl := asked_len l all pick
  have hEl := eager_len l all pick
  have hAt := fun k hk => hr.asked_at pick (k := k) hk
  have hEt := fun k hk => hr.eager_at pick (k := k) hk
  generalize hAL : askedOf all (toldS l all pick).2.2 = AL at hA hAl hAt ⊢
  generalize hELL : (toldS l all pick).2.2.map (eagerOf l) = EL at hE hEl hEt ⊢
  generalize hD : (toldS l all pick).1 = D at hd hEn hdl hdc ⊢
  obtain ⟨fA, hfA, hadA⟩ := hA.item
  obtain ⟨fE, hfE, hadE⟩ := hE.item
  refine TL.move hF rfl rfl ?_
  refine TL.extract hF rfl rfl rfl ?_
  refine TL.extract hF rfl rfl rfl ?_
  refine TL.assign hF rfl rfl ?_
  refine TL.assign hF rfl rfl ?_
  refine TL.nil ?_
  refine TQ.then_n ?_
  refine T.seq ?_
  refine T.seq ?_
  refine T.region ?_
  refine TL.move hF rfl rfl ?_
  refine TL.bin hF rfl rfl rfl rfl ?_
  refine TL.move hF rfl rfl ?_
  refine TL.on rfl rfl rfl rfl ?_
  refine TL.move hF rfl rfl ?_
  refine TL.on rfl rfl rfl rfl ?_
  refine TL.move hF rfl rfl ?_
  refine TL.on rfl rfl rfl rfl ?_
  refine TL.bin hF rfl rfl rfl rfl ?_
  refine TL.pickF hF rfl rfl rfl rfl ?_
  refine TL.move hF rfl rfl ?_
  refine TL.on rfl rfl rfl rfl ?_
  refine TL.move hF rfl rfl ?_
  refine TL.on rfl rfl rfl rfl ?_
  refine TL.move hF rfl rfl ?_
  refine TL.on rfl rfl rfl rfl ?_
  refine TL.bin hF rfl rfl rfl rfl ?_
  refine TL.pickF hF rfl rfl rfl rfl ?_
  refine TL.move hF rfl rfl ?_
  refine TL.on rfl rfl rfl rfl ?_
  refine TL.move hF rfl rfl ?_
  refine TL.on rfl rfl rfl rfl ?_
  refine TL.len hF rfl rfl ?_
  refine TL.on rfl rfl rfl rfl ?_
  refine TL.move hF rfl rfl ?_
  refine TL.on rfl rfl rfl rfl ?_
  refine TL.len hF rfl rfl ?_
  refine TL.on rfl rfl rfl rfl ?_
  refine TL.bin hF rfl rfl rfl rfl ?_
  refine TL.pickF hF rfl rfl rfl rfl ?_
  refine TL.move hF rfl rfl ?_
  refine TL.on rfl rfl rfl (by simp [hAl]) ?_
  refine TL.move hF rfl rfl ?_
  refine TL.on rfl rfl rfl (by simp [hAl]) ?_
  refine TL.len hF rfl rfl ?_
  refine TL.on rfl rfl rfl (by simp [hAl]) ?_
  refine TL.move hF rfl rfl ?_
  refine TL.on rfl rfl rfl (by simp [hAl]) ?_
  refine TL.len hF rfl rfl ?_
  refine TL.on rfl rfl rfl (by simp [hAl]) ?_
  refine TL.bin hF rfl rfl rfl rfl ?_
  refine TL.pickF hF rfl (by simp [hAl]) rfl rfl ?_
  refine TL.nil ?_
  refine TQ.then_n ?_
  refine T.cond_f rfl (by simp [hEl]) ?_
  refine T.skip ?_
  refine TQ.then_n ?_
  refine T.seq ?_
  refine T.seq ?_
  refine T.region ?_
  refine TL.move hF rfl rfl ?_
  refine TL.len hF rfl rfl ?_
  refine TL.move hF rfl rfl ?_
  refine TL.nil ?_
  refine TQ.then_n ?_
  refine T.block ?_
  refine T.loop (ι := Nat) (fun k => k ≤ all.length) (fun k => [(6, .bool false), (7, .slice la l.length lc), (8, .slice ia' all.length ic), (10, .slice da D.length dc), (12, .slice aa AL.length ac), (14, .slice ea EL.length ec), (83, .slice ia' all.length ic), (84, .int .i64 (all.length : Int)), (85, .int .i64 (k : Int))]) (fun _ => []) (fun k => all.length - k) 0 (Nat.zero_le _) ⟨rfl, rfl, rfl, rfl, rfl, rfl, rfl, rfl, rfl, trivial⟩ rfl ?_
  intro k hk
  refine T.seq ?_
  refine T.region ?_
  refine TL.bin hF rfl rfl rfl rfl ?_
  refine TL.nil ?_
  refine TQ.then_n ?_
  refine T.seq ?_
  first | refine T.cond_d rfl (fun ht86 => ?_) (fun ht86 => ?_) | refine T.cond _ rfl (fun ht86 => ?_) (fun ht86 => ?_)
  · refine T.skip ?_
    refine TQ.then_n ?_
    refine T.seq ?_
    refine T.block ?_
    refine T.seq ?_
    refine T.region ?_
    refine TL.move hF rfl rfl ?_
    refine TL.indexAddr hF rfl rfl (hi.ad (i := k) (by omega)) (by omega) (by omega) rfl ?_
    refine TL.loadA hF (all[k]'(by omega)).cells rfl rfl (hi.ro.atA (i := k) (by omega)) rfl ?_
    refine TL.alloc hF rfl (fun b17 => ?_)
    refine TL.assign hF rfl rfl ?_
    refine TL.storeAI hF (all[k]'(by omega)).cells 0 rfl rfl rfl rfl (icells1 _) (by simp [Value.cells, icl]) ?_
    refine TL.nil ?_
    refine TQ.then_n ?_
    refine T.seq ?_
    refine T.region ?_
    refine TL.move hF rfl rfl ?_
    refine TL.move hF rfl rfl ?_
    refine TL.move hF rfl rfl ?_
    refine TL.move hF rfl rfl ?_
    refine TL.call hF (inputs_fn (now := k) hn hi hr (by omega) hicap (by omega)) rfl rfl ?_
    rintro _ _ ⟨qa, qc, sg, rfl, rfl, hq⟩
    refine TL.call hF (Scratch_at (k := k + 1) hg hn hm (by omega) hq) rfl rfl ?_
    rintro _ _ ⟨wa, wc, ws, rfl, rfl, hw⟩
    have hkl : k < all.length := by omega
    have hw2 : ∀ r, Row S5 w5 (sg :: (ws ++ r)) wa (ints ((List.range l.length).map (VP l all (k + 1)))) := fun r => hw.up (fun z hz => by rcases List.mem_cons.1 hz with h | h <;> simp [h])
    refine TL.move hF rfl rfl ?_
    refine TL.extract hF rfl rfl rfl ?_
    refine TL.extract hF rfl rfl rfl ?_
    refine TL.assign hF rfl rfl ?_
    refine TL.assign hF rfl rfl ?_
    refine TL.nil ?_
    refine TQ.then_n ?_
    refine T.seq ?_
    refine T.seq ?_
    refine T.region ?_
    refine TL.move hF rfl rfl ?_
    refine TL.bin hF rfl rfl rfl rfl ?_
    refine TL.move hF rfl rfl ?_
    refine TL.on rfl rfl rfl rfl ?_
    refine TL.move hF rfl rfl ?_
    refine TL.on rfl rfl rfl rfl ?_
    refine TL.len hF rfl rfl ?_
    refine TL.on rfl rfl rfl rfl ?_
    refine TL.move hF rfl rfl ?_
    refine TL.on rfl rfl rfl rfl ?_
    refine TL.len hF rfl rfl ?_
    refine TL.on rfl rfl rfl rfl ?_
    refine TL.bin hF rfl rfl rfl rfl ?_
    refine TL.pickF hF rfl rfl rfl rfl ?_
    refine TL.nil ?_
    refine TQ.then_n ?_
    refine T.cond_f rfl (by simp) ?_
    refine T.skip ?_
    refine TQ.then_n ?_
    refine T.seq ?_
    refine T.seq ?_
    refine T.region ?_
    refine TL.move hF rfl rfl ?_
    refine TL.len hF rfl rfl ?_
    refine TL.move hF rfl rfl ?_
    refine TL.nil ?_
    refine TQ.then_n ?_
    refine T.block ?_
    refine T.loop (ι := Nat) (fun j => j ≤ D.length) (fun j => [(6, .bool false), (7, .slice la l.length lc), (8, .slice ia' all.length ic), (10, .slice da D.length dc), (12, .slice aa AL.length ac), (14, .slice ea EL.length ec), (83, .slice ia' all.length ic), (84, .int .i64 (all.length : Int)), (85, .int .i64 (k : Int)), (16, .int .i64 (k : Int)), (18, .slice wa l.length wc), (17, ptr b17), (108, .slice da D.length dc), (109, .int .i64 (D.length : Int)), (110, .int .i64 (j : Int))]) (fun _ => (sg :: (ws ++ [[(b17, Obj.cells (all[k]'hkl).cells.toArray 50 (0, 0))]]))) (fun j => D.length - j) 0 (Nat.zero_le _) ⟨rfl, rfl, rfl, rfl, rfl, rfl, rfl, rfl, rfl, rfl, rfl, rfl, rfl, rfl, rfl, trivial⟩ rfl ?_
    intro j hj
    refine T.seq ?_
    refine T.region ?_
    refine TL.bin hF rfl rfl rfl rfl ?_
    refine TL.nil ?_
    refine TQ.then_n ?_
    refine T.seq ?_
    first | refine T.cond_d rfl (fun ht111 => ?_) (fun ht111 => ?_) | refine T.cond _ rfl (fun ht111 => ?_) (fun ht111 => ?_)
    · refine T.skip ?_
      refine TQ.then_n ?_
      refine T.seq ?_
      refine T.block ?_
      refine T.seq ?_
      refine T.region ?_
      refine TL.indexAddr hF rfl rfl (hd.tad dcl (by decide) (i := j) (by omega)) (by omega) (by omega) rfl ?_
      refine TL.loadA hF (D[j]'(by omega)).cells rfl rfl (hd.ro.tabA dcl (i := j) (by omega)) rfl ?_
      refine TL.alloc hF rfl (fun b21 => ?_)
      refine TL.storeAI hF (D[j]'(by omega)).cells 0 rfl rfl rfl rfl (dcells1 _) (by simp [Value.cells, dcl]) ?_
      refine TL.nil ?_
      refine TQ.then_n ?_
      refine T.seq ?_
      have hjl : j < D.length := by omega
      obtain ⟨eq, ei, e1, e2, e3, e4, _, e5⟩ := hEn _ (List.getElem_mem hjl)
      by_cases hin : (D[j]).inst = (k : Int)
      · refine T.draw ?_
        refine DR.stepV [_] rfl [(21, _, none)] rfl rfl ⟨⟨rfl, by kernel_rfl⟩, trivial⟩ (fun ext => TL.fieldAddr hF rfl rfl TL.fin) ?_
        refine DR.stepV [_, _] rfl [(114, _, some 0)] rfl rfl ⟨⟨rfl, rfl, rfl⟩, trivial⟩ (fun ext => TL.load hF rfl (by first | exact At.own' (i := 0) rfl rfl | exact At.own' (i := 1) rfl rfl | exact At.own' (i := 2) rfl rfl | exact At.own' (i := 3) rfl rfl | exact At.own' (i := 4) rfl rfl | exact At.own' (i := 5) rfl rfl | exact At.own' (i := 6) rfl rfl | exact At.own' (i := 7) rfl rfl | exact At.own' (i := 8) rfl rfl | exact At.own' (i := 9) rfl rfl | exact At.own' (i := 10) rfl rfl | exact At.own' (i := 11) rfl rfl | exact At.own' (i := 12) rfl rfl) rfl TL.fin) ?_
        refine DR.stepV [_, _, _] rfl [(16, _, none)] rfl rfl ⟨⟨rfl, by kernel_rfl⟩, trivial⟩ (fun ext => TL.move hF rfl rfl TL.fin) ?_
        refine DR.stepV [_, _, _, _] rfl [(115, _, some 1), (116, _, some 2)] rfl rfl ⟨⟨rfl, rfl, rfl⟩, ⟨rfl, rfl, rfl⟩, trivial⟩ (fun ext => TL.bin hF rfl rfl rfl rfl TL.fin) ?_
        refine DR.stepV [_, _, _, _, _] rfl [(117, _, some 3)] rfl rfl ⟨⟨rfl, rfl, rfl⟩, trivial⟩ (fun ext => TL.move hF rfl rfl TL.fin) ?_
        refine DR.stepV [_, _, _, _, _, _] rfl [(21, _, none), (118, _, some 4)] rfl rfl ⟨⟨rfl, by kernel_rfl⟩, ⟨rfl, rfl, rfl⟩, trivial⟩ (fun ext => TL.on rfl rfl rfl (decide_eq_true hin) <| TL.fieldAddr hF rfl rfl TL.fin) ?_
        refine DR.stepV [_, _, _, _, _, _, _] rfl [(119, _, some 5), (118, _, some 4)] rfl rfl ⟨⟨rfl, rfl, rfl⟩, ⟨rfl, rfl, rfl⟩, trivial⟩ (fun ext => TL.on rfl rfl rfl (decide_eq_true hin) <| TL.load hF rfl (by first | exact At.own' (i := 0) rfl rfl | exact At.own' (i := 1) rfl rfl | exact At.own' (i := 2) rfl rfl | exact At.own' (i := 3) rfl rfl | exact At.own' (i := 4) rfl rfl | exact At.own' (i := 5) rfl rfl | exact At.own' (i := 6) rfl rfl | exact At.own' (i := 7) rfl rfl | exact At.own' (i := 8) rfl rfl | exact At.own' (i := 9) rfl rfl | exact At.own' (i := 10) rfl rfl | exact At.own' (i := 11) rfl rfl | exact At.own' (i := 12) rfl rfl) rfl TL.fin) ?_
        refine DR.stepV [_, _, _, _, _, _, _, _] rfl [(120, _, some 6), (118, _, some 4)] rfl rfl ⟨⟨rfl, rfl, rfl⟩, ⟨rfl, rfl, rfl⟩, trivial⟩ (fun ext => TL.on rfl rfl rfl (decide_eq_true hin) <| TL.bin hF rfl rfl rfl rfl TL.fin) ?_
        refine DR.stepV [_, _, _, _, _, _, _, _, _] rfl [(121, _, some 7), (118, _, some 4)] rfl rfl ⟨⟨rfl, rfl, rfl⟩, ⟨rfl, rfl, rfl⟩, trivial⟩ (fun ext => TL.on rfl rfl rfl (decide_eq_true hin) <| TL.move hF rfl rfl TL.fin) ?_
        refine DR.stepV [_, _, _, _, _, _, _, _, _, _] rfl [(21, _, none), (122, _, some 8)] rfl rfl ⟨⟨rfl, by kernel_rfl⟩, ⟨rfl, rfl, rfl⟩, trivial⟩ (fun ext => TL.on rfl rfl rfl (by first | rfl | exact decide_eq_false (by omega) | (simp; omega)) <| TL.fieldAddr hF rfl rfl TL.fin) ?_
        refine DR.stepV [_, _, _, _, _, _, _, _, _, _, _] rfl [(123, _, some 9), (122, _, some 8)] rfl rfl ⟨⟨rfl, rfl, rfl⟩, ⟨rfl, rfl, rfl⟩, trivial⟩ (fun ext => TL.on rfl rfl rfl (by first | rfl | exact decide_eq_false (by omega) | (simp; omega)) <| TL.load hF rfl (by first | exact At.own' (i := 0) rfl rfl | exact At.own' (i := 1) rfl rfl | exact At.own' (i := 2) rfl rfl | exact At.own' (i := 3) rfl rfl | exact At.own' (i := 4) rfl rfl | exact At.own' (i := 5) rfl rfl | exact At.own' (i := 6) rfl rfl | exact At.own' (i := 7) rfl rfl | exact At.own' (i := 8) rfl rfl | exact At.own' (i := 9) rfl rfl | exact At.own' (i := 10) rfl rfl | exact At.own' (i := 11) rfl rfl | exact At.own' (i := 12) rfl rfl) rfl TL.fin) ?_
        refine DR.stepV [_, _, _, _, _, _, _, _, _, _, _, _] rfl [(7, _, none), (122, _, some 8)] rfl rfl ⟨⟨rfl, by kernel_rfl⟩, ⟨rfl, rfl, rfl⟩, trivial⟩ (fun ext => TL.on rfl rfl rfl (by first | rfl | exact decide_eq_false (by omega) | (simp; omega)) <| TL.move hF rfl rfl TL.fin) ?_
        refine DR.stepV [_, _, _, _, _, _, _, _, _, _, _, _, _] rfl [(125, _, some 11), (122, _, some 8)] rfl rfl ⟨⟨rfl, rfl, rfl⟩, ⟨rfl, rfl, rfl⟩, trivial⟩ (fun ext => TL.on rfl rfl rfl (by first | rfl | exact decide_eq_false (by omega) | (simp; omega)) <| TL.len hF rfl rfl TL.fin) ?_
        refine DR.stepV [_, _, _, _, _, _, _, _, _, _, _, _, _, _] rfl [(124, _, some 10), (126, _, some 12), (122, _, some 8)] rfl rfl ⟨⟨rfl, rfl, rfl⟩, ⟨rfl, rfl, rfl⟩, ⟨rfl, rfl, rfl⟩, trivial⟩ (fun ext => TL.on rfl rfl rfl (by first | rfl | exact decide_eq_false (by omega) | (simp; omega)) <| TL.bin hF rfl rfl rfl rfl TL.fin) ?_
        refine DR.stepV [_, _, _, _, _, _, _, _, _, _, _, _, _, _, _] rfl [(122, _, some 8), (127, _, some 13), (118, _, some 4)] rfl rfl ⟨⟨rfl, rfl, rfl⟩, ⟨rfl, rfl, rfl⟩, ⟨rfl, rfl, rfl⟩, trivial⟩ (fun ext => TL.on rfl rfl rfl (decide_eq_true hin) <| TL.pickF hF rfl (by first | rfl | exact decide_eq_false (by omega) | (simp; omega)) rfl rfl TL.fin) ?_
        refine DR.stepV [_, _, _, _, _, _, _, _, _, _, _, _, _, _, _, _] rfl [(128, _, some 14), (118, _, some 4)] rfl rfl ⟨⟨rfl, rfl, rfl⟩, ⟨rfl, rfl, rfl⟩, trivial⟩ (fun ext => TL.on rfl rfl rfl (decide_eq_true hin) <| TL.move hF rfl rfl TL.fin) ?_
        refine DR.stepV [_, _, _, _, _, _, _, _, _, _, _, _, _, _, _, _, _] rfl [(21, _, none), (129, _, some 15)] rfl rfl ⟨⟨rfl, by kernel_rfl⟩, ⟨rfl, rfl, rfl⟩, trivial⟩ (fun ext => TL.on rfl rfl rfl (by first | rfl | exact decide_eq_false (by omega) | (simp; omega)) <| TL.fieldAddr hF rfl rfl TL.fin) ?_
        refine DR.stepV [_, _, _, _, _, _, _, _, _, _, _, _, _, _, _, _, _, _] rfl [(130, _, some 16), (129, _, some 15)] rfl rfl ⟨⟨rfl, rfl, rfl⟩, ⟨rfl, rfl, rfl⟩, trivial⟩ (fun ext => TL.on rfl rfl rfl (by first | rfl | exact decide_eq_false (by omega) | (simp; omega)) <| TL.load hF rfl (by first | exact At.own' (i := 0) rfl rfl | exact At.own' (i := 1) rfl rfl | exact At.own' (i := 2) rfl rfl | exact At.own' (i := 3) rfl rfl | exact At.own' (i := 4) rfl rfl | exact At.own' (i := 5) rfl rfl | exact At.own' (i := 6) rfl rfl | exact At.own' (i := 7) rfl rfl | exact At.own' (i := 8) rfl rfl | exact At.own' (i := 9) rfl rfl | exact At.own' (i := 10) rfl rfl | exact At.own' (i := 11) rfl rfl | exact At.own' (i := 12) rfl rfl) rfl TL.fin) ?_
        refine DR.stepV [_, _, _, _, _, _, _, _, _, _, _, _, _, _, _, _, _, _, _] rfl [(18, _, none), (129, _, some 15)] rfl rfl ⟨⟨rfl, by kernel_rfl⟩, ⟨rfl, rfl, rfl⟩, trivial⟩ (fun ext => TL.on rfl rfl rfl (by first | rfl | exact decide_eq_false (by omega) | (simp; omega)) <| TL.move hF rfl rfl TL.fin) ?_
        refine DR.stepV [_, _, _, _, _, _, _, _, _, _, _, _, _, _, _, _, _, _, _, _] rfl [(21, _, none), (129, _, some 15)] rfl rfl ⟨⟨rfl, by kernel_rfl⟩, ⟨rfl, rfl, rfl⟩, trivial⟩ (fun ext => TL.on rfl rfl rfl (by first | rfl | exact decide_eq_false (by omega) | (simp; omega)) <| TL.fieldAddr hF rfl rfl TL.fin) ?_
        refine DR.stepV [_, _, _, _, _, _, _, _, _, _, _, _, _, _, _, _, _, _, _, _, _] rfl [(133, _, some 19), (129, _, some 15)] rfl rfl ⟨⟨rfl, rfl, rfl⟩, ⟨rfl, rfl, rfl⟩, trivial⟩ (fun ext => TL.on rfl rfl rfl (by first | rfl | exact decide_eq_false (by omega) | (simp; omega)) <| TL.load hF rfl (by first | exact At.own' (i := 0) rfl rfl | exact At.own' (i := 1) rfl rfl | exact At.own' (i := 2) rfl rfl | exact At.own' (i := 3) rfl rfl | exact At.own' (i := 4) rfl rfl | exact At.own' (i := 5) rfl rfl | exact At.own' (i := 6) rfl rfl | exact At.own' (i := 7) rfl rfl | exact At.own' (i := 8) rfl rfl | exact At.own' (i := 9) rfl rfl | exact At.own' (i := 10) rfl rfl | exact At.own' (i := 11) rfl rfl | exact At.own' (i := 12) rfl rfl) rfl TL.fin) ?_
        refine DR.stepV [_, _, _, _, _, _, _, _, _, _, _, _, _, _, _, _, _, _, _, _, _, _] rfl [(132, _, some 18), (134, _, some 20), (129, _, some 15)] rfl rfl ⟨⟨rfl, rfl, rfl⟩, ⟨rfl, rfl, rfl⟩, ⟨rfl, rfl, rfl⟩, trivial⟩ (fun ext => TL.on rfl rfl rfl (by first | rfl | exact decide_eq_false (by omega) | (simp; omega)) <| TL.indexAddr hF rfl rfl (hw.adi (i := (D[j].node).toNat) (by simp; omega)) (by omega) (by omega) rfl TL.fin) ?_
        refine DR.stepV [_, _, _, _, _, _, _, _, _, _, _, _, _, _, _, _, _, _, _, _, _, _, _] rfl [(135, _, some 21), (129, _, some 15)] rfl rfl ⟨⟨rfl, rfl, rfl⟩, ⟨rfl, rfl, rfl⟩, trivial⟩ (fun ext => TL.on rfl rfl rfl (by first | rfl | exact decide_eq_false (by omega) | (simp; omega)) <| TL.load hF rfl (v := .int .i64 (VP l all (k + 1) (D[j].node).toNat)) (range_map_row ((hw2 _).up (fun z hz => upc _ hz)) (by omega)) rfl TL.fin) ?_
        refine DR.done [(136, _), (135, _), (134, _), (133, _), (132, _), (131, _), (130, _), (129, _), (128, _), (127, _), (126, _), (125, _), (124, _), (123, _), (122, _), (121, _), (120, _), (119, _), (118, _), (117, _), (116, _), (115, _), (114, _)] [_, _, _] mixed (by kernel_rfl) (by kernel_rfl) (by kernel_rfl) rfl rfl ?_
        refine TL.on rfl rfl rfl (by first | rfl | exact decide_eq_false (by omega) | (simp; omega)) ?_
        refine TL.bin hF rfl rfl rfl rfl ?_
        refine TL.on rfl rfl rfl (decide_eq_true hin) ?_
        refine TL.pickF hF rfl (by first | rfl | exact decide_eq_false (by omega) | (simp; omega)) rfl rfl ?_
        refine TL.pickT hF rfl (decide_eq_true hin) rfl rfl ?_
        refine TL.nil ?_
        refine TQ.then_n ?_
        refine T.cond_f rfl (by
            have h1 : eq = k := by omega
            have h2 : D[j].node.toNat = ei := by omega
            subst h1
            simp [h2, e5]) ?_
        refine T.skip ?_
        refine TQ.block_n ?_
        refine TQ.then_n ?_
        refine T.region ?_
        refine TL.add hF rfl rfl (by omega) (by omega) rfl ?_
        refine TL.move hF rfl rfl ?_
        refine TL.nil ?_
        refine TQ.pop ?_
        exact TQ.round (j + 1) (by omega) (by omega) ⟨rfl, rfl, rfl, rfl, rfl, rfl, rfl, rfl, rfl, rfl, rfl, rfl, rfl, rfl, rfl, trivial⟩ rfl
      · refine T.draw ?_
        refine DR.stepV [_] rfl [(21, _, none)] rfl rfl ⟨⟨rfl, by kernel_rfl⟩, trivial⟩ (fun ext => TL.fieldAddr hF rfl rfl TL.fin) ?_
        refine DR.stepV [_, _] rfl [(114, _, some 0)] rfl rfl ⟨⟨rfl, rfl, rfl⟩, trivial⟩ (fun ext => TL.load hF rfl (by first | exact At.own' (i := 0) rfl rfl | exact At.own' (i := 1) rfl rfl | exact At.own' (i := 2) rfl rfl | exact At.own' (i := 3) rfl rfl | exact At.own' (i := 4) rfl rfl | exact At.own' (i := 5) rfl rfl | exact At.own' (i := 6) rfl rfl | exact At.own' (i := 7) rfl rfl | exact At.own' (i := 8) rfl rfl | exact At.own' (i := 9) rfl rfl | exact At.own' (i := 10) rfl rfl | exact At.own' (i := 11) rfl rfl | exact At.own' (i := 12) rfl rfl) rfl TL.fin) ?_
        refine DR.stepV [_, _, _] rfl [(16, _, none)] rfl rfl ⟨⟨rfl, by kernel_rfl⟩, trivial⟩ (fun ext => TL.move hF rfl rfl TL.fin) ?_
        refine DR.stepV [_, _, _, _] rfl [(115, _, some 1), (116, _, some 2)] rfl rfl ⟨⟨rfl, rfl, rfl⟩, ⟨rfl, rfl, rfl⟩, trivial⟩ (fun ext => TL.bin hF rfl rfl rfl rfl TL.fin) ?_
        refine DR.stepV [_, _, _, _, _] rfl [(117, _, some 3)] rfl rfl ⟨⟨rfl, rfl, rfl⟩, trivial⟩ (fun ext => TL.move hF rfl rfl TL.fin) ?_
        refine DR.stepV [_, _, _, _, _, _] rfl [(21, _, none), (118, _, some 4)] rfl rfl ⟨⟨rfl, by kernel_rfl⟩, ⟨rfl, rfl, rfl⟩, trivial⟩ (fun ext => TL.off hF rfl rfl rfl (decide_eq_false hin) rfl TL.fin) ?_
        refine DR.stepV [_, _, _, _, _, _, _] rfl [(119, _, some 5), (118, _, some 4)] rfl rfl ⟨⟨rfl, rfl, rfl⟩, ⟨rfl, rfl, rfl⟩, trivial⟩ (fun ext => TL.off hF rfl rfl rfl (decide_eq_false hin) rfl TL.fin) ?_
        refine DR.stepV [_, _, _, _, _, _, _, _] rfl [(120, _, some 6), (118, _, some 4)] rfl rfl ⟨⟨rfl, rfl, rfl⟩, ⟨rfl, rfl, rfl⟩, trivial⟩ (fun ext => TL.off hF rfl rfl rfl (decide_eq_false hin) rfl TL.fin) ?_
        refine DR.stepV [_, _, _, _, _, _, _, _, _] rfl [(121, _, some 7), (118, _, some 4)] rfl rfl ⟨⟨rfl, rfl, rfl⟩, ⟨rfl, rfl, rfl⟩, trivial⟩ (fun ext => TL.off hF rfl rfl rfl (decide_eq_false hin) rfl TL.fin) ?_
        refine DR.stepV [_, _, _, _, _, _, _, _, _, _] rfl [(21, _, none), (122, _, some 8)] rfl rfl ⟨⟨rfl, by kernel_rfl⟩, ⟨rfl, rfl, rfl⟩, trivial⟩ (fun ext => TL.offU hF rfl rfl rfl rfl TL.fin) ?_
        refine DR.stepV [_, _, _, _, _, _, _, _, _, _, _] rfl [(123, _, some 9), (122, _, some 8)] rfl rfl ⟨⟨rfl, rfl, rfl⟩, ⟨rfl, rfl, rfl⟩, trivial⟩ (fun ext => TL.offU hF rfl rfl rfl rfl TL.fin) ?_
        refine DR.stepV [_, _, _, _, _, _, _, _, _, _, _, _] rfl [(7, _, none), (122, _, some 8)] rfl rfl ⟨⟨rfl, by kernel_rfl⟩, ⟨rfl, rfl, rfl⟩, trivial⟩ (fun ext => TL.offU hF rfl rfl rfl rfl TL.fin) ?_
        refine DR.stepV [_, _, _, _, _, _, _, _, _, _, _, _, _] rfl [(125, _, some 11), (122, _, some 8)] rfl rfl ⟨⟨rfl, rfl, rfl⟩, ⟨rfl, rfl, rfl⟩, trivial⟩ (fun ext => TL.offU hF rfl rfl rfl rfl TL.fin) ?_
        refine DR.stepV [_, _, _, _, _, _, _, _, _, _, _, _, _, _] rfl [(124, _, some 10), (126, _, some 12), (122, _, some 8)] rfl rfl ⟨⟨rfl, rfl, rfl⟩, ⟨rfl, rfl, rfl⟩, ⟨rfl, rfl, rfl⟩, trivial⟩ (fun ext => TL.offU hF rfl rfl rfl rfl TL.fin) ?_
        refine DR.stepV [_, _, _, _, _, _, _, _, _, _, _, _, _, _, _] rfl [(122, _, some 8), (127, _, some 13), (118, _, some 4)] rfl rfl ⟨⟨rfl, rfl, rfl⟩, ⟨rfl, rfl, rfl⟩, ⟨rfl, rfl, rfl⟩, trivial⟩ (fun ext => TL.off hF rfl rfl rfl (decide_eq_false hin) rfl TL.fin) ?_
        refine DR.stepV [_, _, _, _, _, _, _, _, _, _, _, _, _, _, _, _] rfl [(128, _, some 14), (118, _, some 4)] rfl rfl ⟨⟨rfl, rfl, rfl⟩, ⟨rfl, rfl, rfl⟩, trivial⟩ (fun ext => TL.off hF rfl rfl rfl (decide_eq_false hin) rfl TL.fin) ?_
        refine DR.stepV [_, _, _, _, _, _, _, _, _, _, _, _, _, _, _, _, _] rfl [(21, _, none), (129, _, some 15)] rfl rfl ⟨⟨rfl, by kernel_rfl⟩, ⟨rfl, rfl, rfl⟩, trivial⟩ (fun ext => TL.offU hF rfl rfl rfl rfl TL.fin) ?_
        refine DR.stepV [_, _, _, _, _, _, _, _, _, _, _, _, _, _, _, _, _, _] rfl [(130, _, some 16), (129, _, some 15)] rfl rfl ⟨⟨rfl, rfl, rfl⟩, ⟨rfl, rfl, rfl⟩, trivial⟩ (fun ext => TL.offU hF rfl rfl rfl rfl TL.fin) ?_
        refine DR.stepV [_, _, _, _, _, _, _, _, _, _, _, _, _, _, _, _, _, _, _] rfl [(18, _, none), (129, _, some 15)] rfl rfl ⟨⟨rfl, by kernel_rfl⟩, ⟨rfl, rfl, rfl⟩, trivial⟩ (fun ext => TL.offU hF rfl rfl rfl rfl TL.fin) ?_
        refine DR.stepV [_, _, _, _, _, _, _, _, _, _, _, _, _, _, _, _, _, _, _, _] rfl [(21, _, none), (129, _, some 15)] rfl rfl ⟨⟨rfl, by kernel_rfl⟩, ⟨rfl, rfl, rfl⟩, trivial⟩ (fun ext => TL.offU hF rfl rfl rfl rfl TL.fin) ?_
        refine DR.stepV [_, _, _, _, _, _, _, _, _, _, _, _, _, _, _, _, _, _, _, _, _] rfl [(133, _, some 19), (129, _, some 15)] rfl rfl ⟨⟨rfl, rfl, rfl⟩, ⟨rfl, rfl, rfl⟩, trivial⟩ (fun ext => TL.offU hF rfl rfl rfl rfl TL.fin) ?_
        refine DR.stepV [_, _, _, _, _, _, _, _, _, _, _, _, _, _, _, _, _, _, _, _, _, _] rfl [(132, _, some 18), (134, _, some 20), (129, _, some 15)] rfl rfl ⟨⟨rfl, rfl, rfl⟩, ⟨rfl, rfl, rfl⟩, ⟨rfl, rfl, rfl⟩, trivial⟩ (fun ext => TL.offU hF rfl rfl rfl rfl TL.fin) ?_
        refine DR.stepV [_, _, _, _, _, _, _, _, _, _, _, _, _, _, _, _, _, _, _, _, _, _, _] rfl [(135, _, some 21), (129, _, some 15)] rfl rfl ⟨⟨rfl, rfl, rfl⟩, ⟨rfl, rfl, rfl⟩, trivial⟩ (fun ext => TL.offU hF rfl rfl rfl rfl TL.fin) ?_
        refine DR.done [(136, _), (135, _), (134, _), (133, _), (132, _), (131, _), (130, _), (129, _), (128, _), (127, _), (126, _), (125, _), (124, _), (123, _), (122, _), (121, _), (120, _), (119, _), (118, _), (117, _), (116, _), (115, _), (114, _)] [_, _, _] mixed (by kernel_rfl) (by kernel_rfl) (by kernel_rfl) rfl rfl ?_
        refine TL.offU hF rfl rfl rfl rfl ?_
        refine TL.off hF rfl rfl rfl (decide_eq_false hin) rfl ?_
        refine TL.pickF hF rfl (decide_eq_false hin) rfl rfl ?_
        refine TL.nil ?_
        refine TQ.then_n ?_
        refine T.cond_f rfl rfl ?_
        refine T.skip ?_
        refine TQ.block_n ?_
        refine TQ.then_n ?_
        refine T.region ?_
        refine TL.add hF rfl rfl (by omega) (by omega) rfl ?_
        refine TL.move hF rfl rfl ?_
        refine TL.nil ?_
        refine TQ.pop ?_
        exact TQ.round (j + 1) (by omega) (by omega) ⟨rfl, rfl, rfl, rfl, rfl, rfl, rfl, rfl, rfl, rfl, rfl, rfl, rfl, rfl, rfl, trivial⟩ rfl
    · refine T.exit ?_
      refine TQ.then_x ?_
      refine TQ.then_x ?_
      refine TQ.block_x ?_
      refine TQ.then_n ?_
      refine T.seq ?_
      refine T.region ?_
      refine TL.assign hF rfl rfl ?_
      refine TL.assign hF rfl rfl ?_
      refine TL.nil ?_
      refine TQ.then_n ?_
      refine T.seq ?_
      refine T.seq ?_
      refine T.region ?_
      refine TL.fieldAddr hF rfl rfl ?_
      refine TL.load hF rfl (v := .slice (all[k]'hkl).aa (all[k]'hkl).asks.length (all[k]'hkl).ac) (own_mem (cs := (all[k]'hkl).cells.toArray) (e := 50) (fz := (0, 0)) (by simp) rfl) rfl ?_
      refine TL.len hF rfl rfl ?_
      refine TL.move hF rfl rfl ?_
      refine TL.nil ?_
      refine TQ.then_n ?_
      refine T.block ?_
      have hkia := ia_eq hkl
      have hio := instE_ok (hr.io k hkl)
      have hask := fun z hz => (hr.ask_word pick hkl (z := z) hz).1
      have hal10 := hio.2.1
      have harow := hi.arow hkl
      rw [hkia] at hask hal10
      refine T.hnil ?_
      refine T.loop (ι := Nat × Option Addr × Nat × Seg) (fun i => i.1 ≤ (all[k]'hkl).asks.length ∧ OSl 3 1 (.slice i.2.1 (((all[k]'hkl).asks.take i.1).map fun z => VP l all (k + 1) z.toNat).length i.2.2.1) (((all[k]'hkl).asks.take i.1).map fun z => VP l all (k + 1) z.toNat).length (ints (((all[k]'hkl).asks.take i.1).map fun z => VP l all (k + 1) z.toNat)) i.2.2.2) (fun i => [(6, .bool false), (7, .slice la l.length lc), (8, .slice ia' all.length ic), (10, .slice da D.length dc), (12, .slice aa AL.length ac), (14, .slice ea EL.length ec), (83, .slice ia' all.length ic), (84, .int .i64 (all.length : Int)), (85, .int .i64 (k : Int)), (16, .int .i64 (k : Int)), (18, .slice wa l.length wc), (22, .slice i.2.1 (((all[k]'hkl).asks.take i.1).map fun z => VP l all (k + 1) z.toNat).length i.2.2.1), (23, .slice none 0 0), (142, .slice (all[k]'hkl).aa (all[k]'hkl).asks.length (all[k]'hkl).ac), (143, .int .i64 ((all[k]'hkl).asks.length : Int)), (144, .int .i64 (i.1 : Int))]) (fun i => i.2.2.2 :: (sg :: (ws ++ [[(b17, Obj.cells (all[k]'hkl).cells.toArray 50 (0, 0))]]))) (fun i => (all[k]'hkl).asks.length - i.1) (0, none, 0, []) ⟨Nat.zero_le _, OSl.nil 3 1⟩ ⟨rfl, rfl, rfl, rfl, rfl, rfl, rfl, rfl, rfl, rfl, rfl, rfl, rfl, rfl, rfl, rfl, trivial⟩ rfl ?_
      rintro ⟨j, oa, oc, og⟩ ⟨hj, ho⟩
      dsimp only at hj ho
      have hwll : (((all[k]'hkl).asks.take j).map fun z => VP l all (k + 1) z.toNat).length = j := by simp; omega
      refine T.seq ?_
      refine T.region ?_
      refine TL.bin hF rfl rfl rfl rfl ?_
      refine TL.nil ?_
      refine TQ.then_n ?_
      refine T.seq ?_
      first | refine T.cond_d rfl (fun ht145 => ?_) (fun ht145 => ?_) | refine T.cond _ rfl (fun ht145 => ?_) (fun ht145 => ?_)
      · refine T.skip ?_
        refine TQ.then_n ?_
        refine T.seq ?_
        refine T.block ?_
        refine T.seq ?_
        refine T.region ?_
        refine TL.indexAddr hF rfl rfl (harow.adi (i := j) (by rw [List.length_map]; omega)) (by omega) (by omega) rfl ?_
        refine TL.load hF rfl (harow.ro.int (i := j) (by omega)) rfl ?_
        refine TL.assign hF rfl rfl ?_
        refine TL.nil ?_
        refine TQ.then_n ?_
        refine T.region ?_
        refine TL.move hF rfl rfl ?_
        refine TL.move hF rfl rfl ?_
        refine TL.move hF rfl rfl ?_
        have hjl : j < (all[k]'hkl).asks.length := by omega
        have haz := hask _ (List.getElem_mem hjl)
        refine TL.indexAddr hF rfl rfl (hw.adi (i := ((all[k]'hkl).asks[j]).toNat) (by simp; omega)) (by omega) (by omega) rfl ?_
        refine TL.load hF rfl (v := .int .i64 (VP l all (k + 1) ((all[k]'hkl).asks[j]).toNat)) (range_map_row ((hw2 _).up (fun z hz => upc _ hz)) (by omega)) rfl ?_
        refine TL.buildSlice hF rfl (cs := #[.int .i64 (VP l all (k + 1) ((all[k]'hkl).asks[j]).toNat)]) (e := 3) (fun w => by kernel_rfl) rfl (fun b153 => ?_)
        refine TL.append hF 1 rfl rfl rfl ho (row_own (cs := [.int .i64 (VP l all (k + 1) ((all[k]'hkl).asks[j]).toNat)]) (e := 3) List.mem_cons_self).src rfl rfl (by simp [Value.oneCell']) (by omega) (by omega) rfl (fun a' cap' seg' ho' => ?_)
        refine TL.assign hF rfl rfl ?_
        refine TL.nil ?_
        refine TQ.block_n ?_
        refine TQ.then_n ?_
        refine T.region ?_
        refine TL.add hF rfl rfl (by omega) (by omega) rfl ?_
        refine TL.move hF rfl rfl ?_
        refine TL.nil ?_
        refine TQ.pop ?_
        have ew : (((all[k]'hkl).asks.take (j + 1)).map fun z => VP l all (k + 1) z.toNat) = (((all[k]'hkl).asks.take j).map fun z => VP l all (k + 1) z.toNat) ++ [VP l all (k + 1) ((all[k]'hkl).asks[j]).toNat] := by rw [List.take_succ_eq_append_getElem hjl, List.map_append]; rfl
        have ew1 : (((all[k]'hkl).asks.take j).map fun z => VP l all (k + 1) z.toNat).length + 1 = (((all[k]'hkl).asks.take (j + 1)).map fun z => VP l all (k + 1) z.toNat).length := by rw [ew]; simp
        refine TQ.round (j + 1, a', cap', seg') ⟨by dsimp only; omega, ?_⟩ (by dsimp only; omega) ⟨rfl, rfl, rfl, rfl, rfl, rfl, rfl, rfl, rfl, rfl, rfl, congrArg (fun z => some (Value.slice a' z cap')) ew1, rfl, rfl, rfl, rfl, trivial⟩ rfl
        dsimp only
        rw [← ew1, ew, ints, List.map_append]; exact ho'
      · refine T.exit ?_
        refine TQ.then_x ?_
        refine TQ.then_x ?_
        refine TQ.block_x ?_
        refine TQ.then_n ?_
        refine T.seq ?_
        refine T.seq ?_
        refine T.region ?_
        refine TL.move hF rfl rfl ?_
        refine TL.len hF rfl rfl ?_
        refine TL.move hF rfl rfl ?_
        refine TL.nil ?_
        refine TQ.then_n ?_
        refine T.block ?_
        have hjn : j = (all[k]'hkl).asks.length := by omega
        subst hjn
        refine T.hnil ?_
        refine T.loop (ι := Nat × Option Addr × Nat × Seg) (fun i => i.1 ≤ l.length ∧ OSl 3 1 (.slice i.2.1 (((List.range i.1).filter fun i => (nd l i).eager).map (VP l all (k + 1))).length i.2.2.1) (((List.range i.1).filter fun i => (nd l i).eager).map (VP l all (k + 1))).length (ints (((List.range i.1).filter fun i => (nd l i).eager).map (VP l all (k + 1)))) i.2.2.2) (fun i => [(6, .bool false), (7, .slice la l.length lc), (8, .slice ia' all.length ic), (10, .slice da D.length dc), (12, .slice aa AL.length ac), (14, .slice ea EL.length ec), (83, .slice ia' all.length ic), (84, .int .i64 (all.length : Int)), (85, .int .i64 (k : Int)), (16, .int .i64 (k : Int)), (18, .slice wa l.length wc), (22, .slice oa (((all[k]'hkl).asks.take (all[k]'hkl).asks.length).map fun z => VP l all (k + 1) z.toNat).length oc), (23, .slice i.2.1 (((List.range i.1).filter fun i => (nd l i).eager).map (VP l all (k + 1))).length i.2.2.1), (156, .slice la l.length lc), (157, .int .i64 (l.length : Int)), (158, .int .i64 (i.1 : Int))]) (fun i => i.2.2.2 :: og :: (sg :: (ws ++ [[(b17, Obj.cells (all[k]'hkl).cells.toArray 50 (0, 0))]]))) (fun i => l.length - i.1) (0, none, 0, []) ⟨Nat.zero_le _, OSl.nil 3 1⟩ ⟨rfl, rfl, rfl, rfl, rfl, rfl, rfl, rfl, rfl, rfl, rfl, rfl, rfl, rfl, rfl, rfl, trivial⟩ rfl ?_
        rintro ⟨j, pa, pc, pg⟩ ⟨hj2, hoo⟩
        dsimp only at hj2 hoo
        have holl : (((List.range j).filter fun i => (nd l i).eager).map (VP l all (k + 1))).length ≤ j := by rw [List.length_map]; have := List.length_filter_le (fun i => (nd l i).eager) (List.range j); rw [List.length_range] at this; exact this
        refine T.seq ?_
        refine T.region ?_
        refine TL.bin hF rfl rfl rfl rfl ?_
        refine TL.nil ?_
        refine TQ.then_n ?_
        refine T.seq ?_
        first | refine T.cond_d rfl (fun ht159 => ?_) (fun ht159 => ?_) | refine T.cond _ rfl (fun ht159 => ?_) (fun ht159 => ?_)
        · refine T.skip ?_
          refine TQ.then_n ?_
          refine T.seq ?_
          refine T.block ?_
          refine T.seq ?_
          refine T.region ?_
          refine TL.move hF rfl rfl ?_
          refine TL.indexAddr hF rfl rfl (hn.ad (i := j) (by omega)) (by omega) (by omega) rfl ?_
          refine TL.loadA hF (l[j]'(by omega)).cells rfl rfl (hn.ro.atA (i := j) (by omega)) rfl ?_
          refine TL.alloc hF rfl (fun b27 => ?_)
          refine TL.assign hF rfl rfl ?_
          refine TL.storeAI hF (l[j]'(by omega)).cells 0 rfl rfl rfl rfl (ncells1 _) (by simp [Value.cells, ncl]) ?_
          refine TL.nil ?_
          refine TQ.then_n ?_
          refine T.seq ?_
          refine T.region ?_
          refine TL.fieldAddr hF rfl rfl ?_
          refine TL.load hF rfl (by first | exact At.own' (i := 0) rfl rfl | exact At.own' (i := 1) rfl rfl | exact At.own' (i := 2) rfl rfl | exact At.own' (i := 3) rfl rfl | exact At.own' (i := 4) rfl rfl | exact At.own' (i := 5) rfl rfl | exact At.own' (i := 6) rfl rfl | exact At.own' (i := 7) rfl rfl | exact At.own' (i := 8) rfl rfl | exact At.own' (i := 9) rfl rfl | exact At.own' (i := 10) rfl rfl | exact At.own' (i := 11) rfl rfl | exact At.own' (i := 12) rfl rfl) rfl ?_
          refine TL.nil ?_
          refine TQ.then_n ?_
          first | refine T.cond_d rfl (fun ht164 => ?_) (fun ht164 => ?_) | refine T.cond _ rfl (fun ht164 => ?_) (fun ht164 => ?_)
          · refine T.region ?_
            refine TL.move hF rfl rfl ?_
            refine TL.move hF rfl rfl ?_
            refine TL.move hF rfl rfl ?_
            refine TL.indexAddr hF rfl rfl (hw.adi (i := j) (by simp; omega)) (by omega) (by omega) rfl ?_
            refine TL.load hF rfl (v := .int .i64 (VP l all (k + 1) j)) (range_map_row ((hw2 _).up (fun z hz => upc _ (upc _ (upc _ hz)))) (by omega)) rfl ?_
            refine TL.buildSlice hF rfl (cs := #[.int .i64 (VP l all (k + 1) j)]) (e := 3) (fun w => by kernel_rfl) rfl (fun b170 => ?_)
            refine TL.append hF 2 rfl rfl rfl hoo (row_own (cs := [.int .i64 (VP l all (k + 1) j)]) (e := 3) List.mem_cons_self).src rfl rfl (by simp [Value.oneCell']) (by omega) (by omega) rfl (fun a' cap' seg' ho' => ?_)
            refine TL.assign hF rfl rfl ?_
            refine TL.nil ?_
            refine TQ.block_n ?_
            refine TQ.then_n ?_
            refine T.region ?_
            refine TL.add hF rfl rfl (by omega) (by omega) rfl ?_
            refine TL.move hF rfl rfl ?_
            refine TL.nil ?_
            refine TQ.pop (TQ.pop ?_)
            have hbe : (nd l j).eager = true := by rw [nd_eq (by omega)]; exact ht164
            have ee : (((List.range (j + 1)).filter fun i => (nd l i).eager).map (VP l all (k + 1))) = (((List.range j).filter fun i => (nd l i).eager).map (VP l all (k + 1))) ++ [VP l all (k + 1) j] := by rw [List.range_succ, List.filter_append, List.filter_cons, if_pos hbe, List.map_append]; rfl
            have ee1 : (((List.range j).filter fun i => (nd l i).eager).map (VP l all (k + 1))).length + 1 = (((List.range (j + 1)).filter fun i => (nd l i).eager).map (VP l all (k + 1))).length := by rw [ee]; simp
            refine TQ.round (j + 1, a', cap', seg') ⟨by dsimp only; omega, ?_⟩ (by dsimp only; omega) ⟨rfl, rfl, rfl, rfl, rfl, rfl, rfl, rfl, rfl, rfl, rfl, rfl, congrArg (fun z => some (Value.slice a' z cap')) ee1, rfl, rfl, rfl, trivial⟩ rfl
            dsimp only
            rw [← ee1, ee, ints, List.map_append]; exact ho'
          · refine T.skip ?_
            refine TQ.block_n ?_
            refine TQ.then_n ?_
            refine T.region ?_
            refine TL.add hF rfl rfl (by omega) (by omega) rfl ?_
            refine TL.move hF rfl rfl ?_
            refine TL.nil ?_
            refine TQ.pop ?_
            have hbe : (nd l j).eager = false := by rw [nd_eq (by omega)]; simpa using ht164
            have ee : (((List.range (j + 1)).filter fun i => (nd l i).eager).map (VP l all (k + 1))) = (((List.range j).filter fun i => (nd l i).eager).map (VP l all (k + 1))) := by rw [List.range_succ, List.filter_append, List.filter_cons, hbe]; simp
            refine TQ.round (j + 1, pa, pc, pg) ⟨by dsimp only; omega, by dsimp only; rw [ee]; exact hoo⟩ (by dsimp only; omega) ⟨rfl, rfl, rfl, rfl, rfl, rfl, rfl, rfl, rfl, rfl, rfl, rfl, congrArg (fun z : List Int => some (Value.slice pa z.length pc)) ee.symm, rfl, rfl, rfl, trivial⟩ rfl
        · refine T.exit ?_
          refine TQ.then_x ?_
          refine TQ.then_x ?_
          refine TQ.block_x ?_
          refine TQ.then_n ?_
          refine T.seq ?_
          refine T.region ?_
          refine TL.move hF rfl rfl ?_
          refine TL.move hF rfl rfl ?_
          have hjn : j = l.length := by omega
          subst hjn
          have hAk : AL[k]'(by omega) = (((all[k]'hkl).asks.take (all[k]'hkl).asks.length).map fun z => VP l all (k + 1) z.toNat) := by rw [List.take_length]; exact Option.some.inj ((List.getElem?_eq_getElem _).symm.trans (hAt k hkl))
          have hEk : EL[k]'(by omega) = (((List.range l.length).filter fun i => (nd l i).eager).map (VP l all (k + 1))) := Option.some.inj ((List.getElem?_eq_getElem _).symm.trans (hEt k hkl))
          have hfAk := hfA k (by omega)
          have hfEk := hfE k (by omega)
          rw [hAk] at hfAk
          rw [hEk] at hfEk
          refine TL.indexAddr hF rfl rfl (hadA k (by omega)) (by omega) (by omega) rfl ?_
          refine TL.load hF rfl (hfAk.1.up (by simp)) rfl ?_
          refine TL.move hF rfl rfl ?_
          refine TL.callV hF (EqT_fn (hfAk.2.up (by simp)) (ho.row (upc _ List.mem_cons_self)) rfl (by omega)) rfl rfl ?_
          refine TL.not hF rfl rfl ?_
          refine TL.move hF rfl rfl ?_
          refine TL.on rfl rfl rfl rfl ?_
          refine TL.move hF rfl rfl ?_
          refine TL.on rfl rfl rfl rfl ?_
          refine TL.move hF rfl rfl ?_
          refine TL.on rfl rfl rfl rfl ?_
          refine TL.indexAddr hF rfl rfl (hadE k (by omega)) (by omega) (by omega) rfl ?_
          refine TL.on rfl rfl rfl rfl ?_
          refine TL.load hF rfl (hfEk.1.up (by simp)) rfl ?_
          refine TL.on rfl rfl rfl rfl ?_
          refine TL.move hF rfl rfl ?_
          refine TL.on rfl rfl rfl rfl ?_
          refine TL.callV hF (EqT_fn (hfEk.2.up (by simp)) (hoo.row List.mem_cons_self) rfl (by omega)) rfl rfl ?_
          refine TL.on rfl rfl rfl rfl ?_
          refine TL.not hF rfl rfl ?_
          refine TL.pickF hF rfl rfl rfl rfl ?_
          refine TL.nil ?_
          refine TQ.then_n ?_
          refine T.cond_f rfl rfl ?_
          refine T.skip ?_
          refine TQ.block_n ?_
          refine TQ.then_n ?_
          refine T.region ?_
          refine TL.add hF rfl rfl (by omega) (by omega) rfl ?_
          refine TL.move hF rfl rfl ?_
          refine TL.nil ?_
          refine TQ.hsub [] (List.nil_sublist _) ?_
          exact TQ.round (k + 1) (by omega) (by omega) ⟨rfl, rfl, rfl, rfl, rfl, rfl, rfl, rfl, rfl, trivial⟩ rfl
  · refine T.exit ?_
    refine TQ.then_x ?_
    refine TQ.then_x ?_
    refine TQ.block_x ?_
    refine TQ.then_n ?_
    refine T.seq ?_
    refine T.region ?_
    refine TL.call hF (awake_fn hg) rfl rfl ?_
    rintro _ _ rfl
    refine TL.assign hF rfl rfl ?_
    refine TL.nil ?_
    refine TQ.then_n ?_
    refine T.ret ?_
    exact TQ.retsF [6] _ hb rfl rfl rfl (fun _ => rfl)
end Go.Proofs.YtefkmiomldhmjaaDoor
