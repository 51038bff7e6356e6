/- Several texts in one. -/
import Derived.Test.YtefkmiomldhmjaaDoorQe
import Derived.Test.YtefkmiomldhmjaaDoorQb
/- The law of names. -/
namespace Go.Proofs.YtefkmiomldhmjaaDoor
open Go.Sl
variable {S : Nat → Prop} {w0 : World} {η : Heap}
theorem Run_err {a : Option Addr} {l : List NodeD} {cn : Nat} {ia : Option Addr} {all : List InstD} {ic : Nat} {k : Int} (hg : Kinds S w0) (hn : Nodes S w0 η a l) (hi : Insts S w0 η ia all) (hl : l.length < 2 ^ 63) (hfl : ∀ x ∈ l, x.fr.length < 2 ^ 63) (hal : all.length < 2 ^ 63) (hc : checkS l all [] = k) (h0 : k ≠ 0) :
    Rt Tryd.prog 17 [.slice a l.length cn, .slice ia all.length ic, .slice none 0 0].toArray S w0 η (fun v η' => (∃ a cap, v = .tuple #[.slice a 0 cap, .int .i64 k]) ∧ ∃ segs, η' = segs) :=
  Rt.frame η (List.append_nil η).symm fun S' w1 hz hb => by
    have h := Run_prog (η := []) (cn := cn) (ic := ic) (sa := none) (pick := []) (sc := 0) (hg.old hz) (hn.frz hz) (hi.frz hz) Row.none hl hfl hal (by simp)
    unfold runS at h
    rw [if_neg (by rw [hc]; exact h0), hc] at h
    exact h.mono fun _ _ ⟨a, c, s, h1, h2, _⟩ => ⟨⟨a, c, h1⟩, _, rfl⟩
theorem runS_err {l : List NodeD} {all : List InstD} {pick : List Int} {k : Int} (hc : checkS l all pick = k) (h0 : k ≠ 0) : runS l all pick = ([], k) := by unfold runS; rw [if_neg (by rw [hc]; exact h0), hc]

set_option maxHeartbeats 2000000 in
theorem SchedNames_fn (hg : Kinds S w0) :
    Rt Tryd.prog 9 [].toArray S w0 [] (fun v _ => v = .bool true) := by
  have hF := open_wide
  refine Rt.of (fn := Tryd.f9) Tryd.func9 rfl rfl ?_
  refine T.seq ?_
  refine T.region ?_
  have hb := Back.refl S w0
  refine TL.assign hF rfl rfl ?_
  refine TL.nil ?_
  refine TQ.then_n ?_
  refine T.seq ?_
  refine T.region ?_
  refine TL.build hF rfl (r := .agg #[.int .i64 1, .int .i64 0, .slice none 0 0, .bool false]) (fun w => by kernel_rfl) rfl ?_
  refine TL.buildSlice hF rfl (cs := (([⟨1, 0, none, [], 0, false⟩] : List NodeD).flatMap NodeD.cells).toArray) (e := 55) (fun w => by kernel_rfl) rfl (fun b17 => ?_)
  have hn1 : Nodes S w0 [[(b17, Obj.cells (([⟨1, 0, none, [], 0, false⟩] : List NodeD).flatMap NodeD.cells).toArray 55 (0, 0))]] (some ⟨b17, 0, none⟩) ([⟨1, 0, none, [], 0, false⟩] : List NodeD) := ⟨row_own (e := 55) (by simp), fun x hx => by rw [List.mem_singleton.1 hx]; exact Row.none⟩
  refine TL.freeze [[(b17, Obj.cells (([⟨1, 0, none, [], 0, false⟩] : List NodeD).flatMap NodeD.cells).toArray 55 (0, 0))]] rfl (fun S1 w1 hz1 => ?_)
  have hb := hb.frz hz1
  have hg := hg.old hz1
  have hn1 := hn1.frz hz1
  refine TL.call hF (Heights_prog hg hn1 (by simp) (fun x hx => by rw [List.mem_singleton.1 hx]; simp)) rfl rfl ?_
  rintro _ _ ⟨a1, c1, s99, rfl, rfl, j1⟩
  clear j1
  rw [show heightsS ([⟨1, 0, none, [], 0, false⟩] : List NodeD) = ([], 1) by kernel_rfl]
  refine TL.hsub [] (List.nil_sublist _) ?_
  refine TL.move hF rfl rfl ?_
  refine TL.extract hF rfl rfl rfl ?_
  refine TL.extract hF rfl rfl rfl ?_
  refine TL.assign hF rfl rfl ?_
  refine TL.assign hF rfl rfl ?_
  refine TL.nil ?_
  refine TQ.then_n ?_
  refine T.seq ?_
  refine T.region ?_
  refine TL.build hF rfl (r := .agg #[.int .i64 0, .int .i64 0, .slice none 0 0, .bool false]) (fun w => by kernel_rfl) rfl ?_
  refine TL.buildSlice hF rfl (cs := (ints [0]).toArray) (e := 3) (fun w => by kernel_rfl) rfl (fun b23 => ?_)
  refine TL.build hF rfl (r := .agg #[.int .i64 3, .int .i64 0, .slice (some ⟨b23, 0, none⟩) 1 1, .bool false]) (fun w => by kernel_rfl) rfl ?_
  refine TL.buildSlice hF rfl (cs := (([⟨0, 0, none, [], 0, false⟩, ⟨3, 0, some ⟨b23, 0, none⟩, [0], 1, false⟩] : List NodeD).flatMap NodeD.cells).toArray) (e := 55) (fun w => by kernel_rfl) rfl (fun b25 => ?_)
  have hn2 : Nodes S1 w1 [[(b25, Obj.cells (([⟨0, 0, none, [], 0, false⟩, ⟨3, 0, some ⟨b23, 0, none⟩, [0], 1, false⟩] : List NodeD).flatMap NodeD.cells).toArray 55 (0, 0))], [(b23, Obj.cells (ints [0]).toArray 3 (0, 0))]] (some ⟨b25, 0, none⟩) ([⟨0, 0, none, [], 0, false⟩, ⟨3, 0, some ⟨b23, 0, none⟩, [0], 1, false⟩] : List NodeD) := ⟨row_own (e := 55) (by simp), fun x hx => by
    simp only [List.mem_cons, List.not_mem_nil, or_false] at hx
    rcases hx with rfl | rfl
    · exact Row.none
    · exact row_own (cs := ints [0]) (e := 3) (by simp)⟩
  refine TL.freeze [[(b25, Obj.cells (([⟨0, 0, none, [], 0, false⟩, ⟨3, 0, some ⟨b23, 0, none⟩, [0], 1, false⟩] : List NodeD).flatMap NodeD.cells).toArray 55 (0, 0))], [(b23, Obj.cells (ints [0]).toArray 3 (0, 0))]] rfl (fun S2 w2 hz2 => ?_)
  have hb := hb.frz hz2
  have hg := hg.old hz2
  have hn2 := hn2.frz hz2
  refine TL.call hF (Heights_prog hg hn2 (by simp) (fun x hx => by simp only [List.mem_cons, List.not_mem_nil, or_false] at hx; rcases hx with rfl | rfl <;> simp)) rfl rfl ?_
  rintro _ _ ⟨a2, c2, s98, rfl, rfl, j2⟩
  clear j2
  rw [show heightsS ([⟨0, 0, none, [], 0, false⟩, ⟨3, 0, some ⟨b23, 0, none⟩, [0], 1, false⟩] : List NodeD) = ([], 1) by kernel_rfl]
  refine TL.hsub [] (List.nil_sublist _) ?_
  refine TL.move hF rfl rfl ?_
  refine TL.extract hF rfl rfl rfl ?_
  refine TL.extract hF rfl rfl rfl ?_
  refine TL.assign hF rfl rfl ?_
  refine TL.assign hF rfl rfl ?_
  refine TL.nil ?_
  refine TQ.then_n ?_
  refine T.seq ?_
  refine T.drawH 7 mixed ?_
  refine DH.heavy2 (h1 := 0) (h2 := 1) (by kernel_rfl) (by kernel_rfl) (by kernel_rfl) (by kernel_rfl) ⟨_, _, [], rfl, rfl, rfl, rfl, trivial, by kernel_rfl, fun ext => ?_⟩ ⟨_, _, [], rfl, rfl, rfl, rfl, trivial, by kernel_rfl, fun ext => ?_⟩
  · refine TL.call hF nodes_fn rfl rfl ?_
    rintro _ _ ⟨p3, q3, r3, t3, n3, s97, rfl, rfl, hn3⟩
    refine TL.finD ?_
    refine DH.heavy 1 [] (by kernel_rfl) (by kernel_rfl) (by kernel_rfl) (by kernel_rfl) rfl rfl rfl rfl trivial (by kernel_rfl) (fun ext => ?_)
    refine TL.makeSliceN hF (k := 31) rfl rfl ((List.replicate 31 (⟨none, [], 0, none, [], 0⟩ : InstD)).flatMap InstD.cells) (by kernel_rfl) (by decide) (by decide) (by decide) (by decide) rfl (fun b31 => ?_)
    refine TL.finD ?_
    refine DH.heavy 2 [(30, _, some 0), (31, _, some 1)] (by kernel_rfl) (by kernel_rfl) (by kernel_rfl) (by kernel_rfl) rfl rfl rfl rfl ⟨⟨rfl, rfl, rfl⟩, ⟨rfl, rfl, rfl⟩, trivial⟩ (by kernel_rfl) (fun ext => ?_)
    refine TL.call hF (Run_err (k := 3) (all := (List.replicate 31 (⟨none, [], 0, none, [], 0⟩ : InstD))) hg (hn3.up (fun z hz => by simp [hz])) ⟨row_own (cs := (List.replicate 31 (⟨none, [], 0, none, [], 0⟩ : InstD)).flatMap InstD.cells) (e := 50) (by simp), fun x hx => by rw [(List.mem_replicate.1 hx).2]; exact Row.none, fun x hx => by rw [(List.mem_replicate.1 hx).2]; exact Row.none⟩ (by simp [exN]) (fun x hx => by simp only [exN, List.mem_cons, List.not_mem_nil, or_false] at hx; rcases hx with rfl | rfl | rfl | rfl | rfl | rfl <;> simp) (by simp) (by kernel_rfl) (by decide)) rfl rfl ?_
    rintro _ _ ⟨⟨a3, c3, rfl⟩, s96, rfl⟩
    refine TL.finD ?_
    refine DH.pure (i := 3) [(32, _, some 2)] rfl rfl rfl rfl ⟨⟨rfl, rfl, rfl⟩, trivial⟩ (fun _ ext => TL.move hF rfl rfl TL.fin) ?_
    refine DH.pure (i := 4) [(29, _, some 3)] rfl rfl rfl rfl ⟨⟨rfl, rfl, rfl⟩, trivial⟩ (fun _ ext => TL.extract hF rfl rfl rfl TL.fin) ?_
    refine DH.pure (i := 5) [(29, _, some 3)] rfl rfl rfl rfl ⟨⟨rfl, rfl, rfl⟩, trivial⟩ (fun _ ext => TL.extract hF rfl rfl rfl TL.fin) ?_
    refine DH.pure (i := 6) [(33, _, some 4)] rfl rfl rfl rfl ⟨⟨rfl, rfl, rfl⟩, trivial⟩ (fun _ ext => TL.assign hF rfl rfl TL.fin) ?_
    refine DH.done [(5, _), (34, _), (33, _), (29, _), (32, _), (31, _), (30, _)] [_] (by kernel_rfl) (by kernel_rfl) (by kernel_rfl) (by kernel_rfl) rfl rfl ?_
    refine TL.assign hF rfl rfl ?_
    refine TL.nil ?_
    refine TQ.then_n ?_
    refine T.seq ?_
    refine T.region ?_
    refine TL.hsub [] (List.nil_sublist _) ?_
    refine TL.call hF nodes_fn rfl rfl ?_
    rintro _ _ ⟨p4, q4, r4, t4, n4, s3, rfl, rfl, hn4⟩
    refine TL.freeze s3 rfl (fun S3 w3 hz3 => ?_)
    have hb := hb.frz hz3
    have hg := hg.old hz3
    have hn4 := hn4.frz hz3
    refine TL.build hF rfl (r := .agg #[.int .i64 2, .int .i64 0]) (fun w => by kernel_rfl) rfl ?_
    refine TL.buildSlice hF rfl (cs := (SetD.cells ⟨2, 0⟩).toArray) (e := 68) (fun w => by kernel_rfl) rfl (fun b38 => ?_)
    refine TL.build hF rfl (r := .agg #[.slice (some ⟨b38, 0, none⟩) 1 1, .slice none 0 0]) (fun w => by kernel_rfl) rfl ?_
    refine TL.buildSlice hF rfl (cs := (([⟨some ⟨b38, 0, none⟩, [⟨2, 0⟩], 1, none, [], 0⟩] : List InstD).flatMap InstD.cells).toArray) (e := 50) (fun w => by kernel_rfl) rfl (fun b40 => ?_)
    have hi4 : Insts S3 w3 [[(b40, Obj.cells (([⟨some ⟨b38, 0, none⟩, [⟨2, 0⟩], 1, none, [], 0⟩] : List InstD).flatMap InstD.cells).toArray 50 (0, 0))], [(b38, Obj.cells (SetD.cells ⟨2, 0⟩).toArray 68 (0, 0))]] (some ⟨b40, 0, none⟩) ([⟨some ⟨b38, 0, none⟩, [⟨2, 0⟩], 1, none, [], 0⟩] : List InstD) := ⟨row_own (e := 50) (by simp), fun x hx => by rw [List.mem_singleton.1 hx]; exact row_own (cs := SetD.cells ⟨2, 0⟩) (e := 68) (by simp), fun x hx => by rw [List.mem_singleton.1 hx]; exact Row.none⟩
    refine TL.freeze [[(b40, Obj.cells (([⟨some ⟨b38, 0, none⟩, [⟨2, 0⟩], 1, none, [], 0⟩] : List InstD).flatMap InstD.cells).toArray 50 (0, 0))], [(b38, Obj.cells (SetD.cells ⟨2, 0⟩).toArray 68 (0, 0))]] rfl (fun S4 w4 hz4 => ?_)
    have hb := hb.frz hz4
    have hg := hg.old hz4
    have hi4 := hi4.frz hz4
    have hn4 := hn4.old hz4
    refine TL.call hF (Run_prog (pick := []) hg hn4 hi4 Row.none (by simp [exN]) (fun x hx => by simp only [exN, List.mem_cons, List.not_mem_nil, or_false] at hx; rcases hx with rfl | rfl | rfl | rfl | rfl | rfl <;> simp) (by simp) (by simp)) rfl rfl ?_
    rintro _ _ ⟨a4, c4, s95, rfl, rfl, j4⟩
    clear j4
    rw [runS_err (k := 2) (by kernel_rfl) (by decide)]
    refine TL.hsub [] (List.nil_sublist _) ?_
    refine TL.move hF rfl rfl ?_
    refine TL.extract hF rfl rfl rfl ?_
    refine TL.extract hF rfl rfl rfl ?_
    refine TL.assign hF rfl rfl ?_
    refine TL.assign hF rfl rfl ?_
    refine TL.nil ?_
    refine TQ.then_n ?_
    refine T.seq ?_
    refine T.region ?_
    refine TL.call hF nodes_fn rfl rfl ?_
    rintro _ _ ⟨p5, q5, r5, t5, n5, s5, rfl, rfl, hn5⟩
    refine TL.freeze s5 rfl (fun S5 w5 hz5 => ?_)
    have hb := hb.frz hz5
    have hg := hg.old hz5
    have hn5 := hn5.frz hz5
    refine TL.buildSlice hF rfl (cs := (ints [6]).toArray) (e := 3) (fun w => by kernel_rfl) rfl (fun b46 => ?_)
    refine TL.build hF rfl (r := .agg #[.slice none 0 0, .slice (some ⟨b46, 0, none⟩) 1 1]) (fun w => by kernel_rfl) rfl ?_
    refine TL.buildSlice hF rfl (cs := (([⟨none, [], 0, some ⟨b46, 0, none⟩, [6], 1⟩] : List InstD).flatMap InstD.cells).toArray) (e := 50) (fun w => by kernel_rfl) rfl (fun b48 => ?_)
    have hi5 : Insts S5 w5 [[(b48, Obj.cells (([⟨none, [], 0, some ⟨b46, 0, none⟩, [6], 1⟩] : List InstD).flatMap InstD.cells).toArray 50 (0, 0))], [(b46, Obj.cells (ints [6]).toArray 3 (0, 0))]] (some ⟨b48, 0, none⟩) ([⟨none, [], 0, some ⟨b46, 0, none⟩, [6], 1⟩] : List InstD) := ⟨row_own (e := 50) (by simp), fun x hx => by rw [List.mem_singleton.1 hx]; exact Row.none, fun x hx => by rw [List.mem_singleton.1 hx]; exact row_own (cs := ints [6]) (e := 3) (by simp)⟩
    refine TL.freeze [[(b48, Obj.cells (([⟨none, [], 0, some ⟨b46, 0, none⟩, [6], 1⟩] : List InstD).flatMap InstD.cells).toArray 50 (0, 0))], [(b46, Obj.cells (ints [6]).toArray 3 (0, 0))]] rfl (fun S6 w6 hz6 => ?_)
    have hb := hb.frz hz6
    have hg := hg.old hz6
    have hi5 := hi5.frz hz6
    have hn5 := hn5.old hz6
    refine TL.call hF (Run_prog (pick := []) hg hn5 hi5 Row.none (by simp [exN]) (fun x hx => by simp only [exN, List.mem_cons, List.not_mem_nil, or_false] at hx; rcases hx with rfl | rfl | rfl | rfl | rfl | rfl <;> simp) (by simp) (by simp)) rfl rfl ?_
    rintro _ _ ⟨a5, c5, s94, rfl, rfl, j5⟩
    clear j5
    rw [runS_err (k := 2) (by kernel_rfl) (by decide)]
    refine TL.hsub [] (List.nil_sublist _) ?_
    refine TL.move hF rfl rfl ?_
    refine TL.extract hF rfl rfl rfl ?_
    refine TL.extract hF rfl rfl rfl ?_
    refine TL.assign hF rfl rfl ?_
    refine TL.assign hF rfl rfl ?_
    refine TL.nil ?_
    refine TQ.then_n ?_
    refine T.seq ?_
    refine T.region ?_
    refine TL.call hF nodes_fn rfl rfl ?_
    rintro _ _ ⟨p6, q6, r6, t6, n6, s7, rfl, rfl, hn6⟩
    refine TL.freeze s7 rfl (fun S7 w7 hz7 => ?_)
    have hb := hb.frz hz7
    have hg := hg.old hz7
    have hn6 := hn6.frz hz7
    refine TL.buildSlice hF rfl (cs := (ints [-1]).toArray) (e := 3) (fun w => by kernel_rfl) rfl (fun b54 => ?_)
    have hp6 : Row S7 w7 [[(b54, Obj.cells (ints [-1]).toArray 3 (0, 0))]] (some ⟨b54, 0, none⟩) (ints [-1]) := row_own (e := 3) (by simp)
    refine TL.freeze [[(b54, Obj.cells (ints [-1]).toArray 3 (0, 0))]] rfl (fun S8 w8 hz8 => ?_)
    have hb := hb.frz hz8
    have hg := hg.old hz8
    have hp6 := hp6.frz hz8
    have hn6 := hn6.old hz8
    refine TL.call hF (Run_prog (ia := none) (all := []) (pick := [-1]) hg hn6 ⟨Row.none, by simp, by simp⟩ hp6 (by simp [exN]) (fun x hx => by simp only [exN, List.mem_cons, List.not_mem_nil, or_false] at hx; rcases hx with rfl | rfl | rfl | rfl | rfl | rfl <;> simp) (by simp) (by simp)) rfl rfl ?_
    rintro _ _ ⟨a6, c6, s93, rfl, rfl, j6⟩
    clear j6
    rw [runS_err (k := 2) (by kernel_rfl) (by decide)]
    refine TL.hsub [] (List.nil_sublist _) ?_
    refine TL.move hF rfl rfl ?_
    refine TL.extract hF rfl rfl rfl ?_
    refine TL.extract hF rfl rfl rfl ?_
    refine TL.assign hF rfl rfl ?_
    refine TL.assign hF rfl rfl ?_
    refine TL.nil ?_
    refine TQ.then_n ?_
    refine T.seq ?_
    refine T.region ?_
    refine TL.call hF nodes_fn rfl rfl ?_
    rintro _ _ ⟨p7, q7, r7, t7, n7, s9, rfl, rfl, hn7⟩
    refine TL.freeze s9 rfl (fun S9 w9 hz9 => ?_)
    have hb := hb.frz hz9
    have hg := hg.old hz9
    have hn7 := hn7.frz hz9
    refine TL.buildSlice hF rfl (cs := (ints [1]).toArray) (e := 3) (fun w => by kernel_rfl) rfl (fun b60 => ?_)
    have hp7 : Row S9 w9 [[(b60, Obj.cells (ints [1]).toArray 3 (0, 0))]] (some ⟨b60, 0, none⟩) (ints [1]) := row_own (e := 3) (by simp)
    refine TL.freeze [[(b60, Obj.cells (ints [1]).toArray 3 (0, 0))]] rfl (fun S10 w10 hz10 => ?_)
    have hb := hb.frz hz10
    have hg := hg.old hz10
    have hp7 := hp7.frz hz10
    have hn7 := hn7.old hz10
    refine TL.call hF (Scratch_prog (ws := [1]) hg hn7 (by simp [exN]) (fun x hx => by simp only [exN, List.mem_cons, List.not_mem_nil, or_false] at hx; rcases hx with rfl | rfl | rfl | rfl | rfl | rfl <;> simp) hp7 (by simp)) rfl rfl ?_
    rintro _ _ ⟨a7, c7, s92, rfl, rfl, j7⟩
    clear j7
    rw [show scratchS (exN p7 q7 r7 t7) [1] = ([], 2) by kernel_rfl]
    refine TL.hsub [] (List.nil_sublist _) ?_
    refine TL.move hF rfl rfl ?_
    refine TL.extract hF rfl rfl rfl ?_
    refine TL.extract hF rfl rfl rfl ?_
    refine TL.assign hF rfl rfl ?_
    refine TL.assign hF rfl rfl ?_
    refine TL.nil ?_
    refine TQ.then_n ?_
    refine T.seq ?_
    refine T.region ?_
    refine TL.move hF rfl rfl ?_
    refine TL.on rfl rfl rfl rfl ?_
    refine TL.move hF rfl rfl ?_
    refine TL.on rfl rfl rfl rfl ?_
    refine TL.bin hF rfl rfl rfl rfl ?_
    refine TL.pickT hF rfl rfl rfl rfl ?_
    refine TL.move hF rfl rfl ?_
    refine TL.on rfl rfl rfl rfl ?_
    refine TL.move hF rfl rfl ?_
    refine TL.on rfl rfl rfl rfl ?_
    refine TL.move hF rfl rfl ?_
    refine TL.on rfl rfl rfl rfl ?_
    refine TL.bin hF rfl rfl rfl rfl ?_
    refine TL.pickT hF rfl rfl rfl rfl ?_
    refine TL.move hF rfl rfl ?_
    refine TL.on rfl rfl rfl rfl ?_
    refine TL.move hF rfl rfl ?_
    refine TL.on rfl rfl rfl rfl ?_
    refine TL.bin hF rfl rfl rfl rfl ?_
    refine TL.pickT hF rfl rfl rfl rfl ?_
    refine TL.move hF rfl rfl ?_
    refine TL.on rfl rfl rfl rfl ?_
    refine TL.move hF rfl rfl ?_
    refine TL.on rfl rfl rfl rfl ?_
    refine TL.bin hF rfl rfl rfl rfl ?_
    refine TL.pickT hF rfl rfl rfl rfl ?_
    refine TL.move hF rfl rfl ?_
    refine TL.on rfl rfl rfl rfl ?_
    refine TL.move hF rfl rfl ?_
    refine TL.on rfl rfl rfl rfl ?_
    refine TL.move hF rfl rfl ?_
    refine TL.on rfl rfl rfl rfl ?_
    refine TL.bin hF rfl rfl rfl rfl ?_
    refine TL.pickT hF rfl rfl rfl rfl ?_
    refine TL.move hF rfl rfl ?_
    refine TL.on rfl rfl rfl rfl ?_
    refine TL.move hF rfl rfl ?_
    refine TL.on rfl rfl rfl rfl ?_
    refine TL.move hF rfl rfl ?_
    refine TL.on rfl rfl rfl rfl ?_
    refine TL.bin hF rfl rfl rfl rfl ?_
    refine TL.pickT hF rfl rfl rfl rfl ?_
    refine TL.move hF rfl rfl ?_
    refine TL.on rfl rfl rfl rfl ?_
    refine TL.move hF rfl rfl ?_
    refine TL.on rfl rfl rfl rfl ?_
    refine TL.move hF rfl rfl ?_
    refine TL.on rfl rfl rfl rfl ?_
    refine TL.bin hF rfl rfl rfl rfl ?_
    refine TL.pickT hF rfl rfl rfl rfl ?_
    refine TL.move hF rfl rfl ?_
    refine TL.on rfl rfl rfl rfl ?_
    refine TL.call hF (awake_fn hg) rfl rfl ?_
    rintro _ _ rfl
    refine TL.pickT hF rfl rfl rfl rfl ?_
    refine TL.assign hF rfl rfl ?_
    refine TL.nil ?_
    refine TQ.then_n ?_
    refine T.ret ?_
    exact TQ.retsF [0] _ hb rfl rfl rfl (fun _ => rfl)
  · refine TL.makeSliceN hF (k := 31) rfl rfl ((List.replicate 31 (⟨none, [], 0, none, [], 0⟩ : InstD)).flatMap InstD.cells) (by kernel_rfl) (by decide) (by decide) (by decide) (by decide) rfl (fun b31 => ?_)
    refine TL.finD ?_
    refine DH.heavy 0 [] (by kernel_rfl) (by kernel_rfl) (by kernel_rfl) (by kernel_rfl) rfl rfl rfl rfl trivial (by kernel_rfl) (fun ext => ?_)
    refine TL.call hF nodes_fn rfl rfl ?_
    rintro _ _ ⟨p3, q3, r3, t3, n3, s97, rfl, rfl, hn3⟩
    refine TL.finD ?_
    refine DH.heavy 2 [(30, _, some 0), (31, _, some 1)] (by kernel_rfl) (by kernel_rfl) (by kernel_rfl) (by kernel_rfl) rfl rfl rfl rfl ⟨⟨rfl, rfl, rfl⟩, ⟨rfl, rfl, rfl⟩, trivial⟩ (by kernel_rfl) (fun ext => ?_)
    refine TL.call hF (Run_err (k := 3) (all := (List.replicate 31 (⟨none, [], 0, none, [], 0⟩ : InstD))) hg (hn3.up (fun z hz => by simp [hz])) ⟨row_own (cs := (List.replicate 31 (⟨none, [], 0, none, [], 0⟩ : InstD)).flatMap InstD.cells) (e := 50) (by simp), fun x hx => by rw [(List.mem_replicate.1 hx).2]; exact Row.none, fun x hx => by rw [(List.mem_replicate.1 hx).2]; exact Row.none⟩ (by simp [exN]) (fun x hx => by simp only [exN, List.mem_cons, List.not_mem_nil, or_false] at hx; rcases hx with rfl | rfl | rfl | rfl | rfl | rfl <;> simp) (by simp) (by kernel_rfl) (by decide)) rfl rfl ?_
    rintro _ _ ⟨⟨a3, c3, rfl⟩, s96, rfl⟩
    refine TL.finD ?_
    refine DH.pure (i := 3) [(32, _, some 2)] rfl rfl rfl rfl ⟨⟨rfl, rfl, rfl⟩, trivial⟩ (fun _ ext => TL.move hF rfl rfl TL.fin) ?_
    refine DH.pure (i := 4) [(29, _, some 3)] rfl rfl rfl rfl ⟨⟨rfl, rfl, rfl⟩, trivial⟩ (fun _ ext => TL.extract hF rfl rfl rfl TL.fin) ?_
    refine DH.pure (i := 5) [(29, _, some 3)] rfl rfl rfl rfl ⟨⟨rfl, rfl, rfl⟩, trivial⟩ (fun _ ext => TL.extract hF rfl rfl rfl TL.fin) ?_
    refine DH.pure (i := 6) [(33, _, some 4)] rfl rfl rfl rfl ⟨⟨rfl, rfl, rfl⟩, trivial⟩ (fun _ ext => TL.assign hF rfl rfl TL.fin) ?_
    refine DH.done [(5, _), (34, _), (33, _), (29, _), (32, _), (30, _), (31, _)] [_] (by kernel_rfl) (by kernel_rfl) (by kernel_rfl) (by kernel_rfl) rfl rfl ?_
    refine TL.assign hF rfl rfl ?_
    refine TL.nil ?_
    refine TQ.then_n ?_
    refine T.seq ?_
    refine T.region ?_
    refine TL.hsub [] (List.nil_sublist _) ?_
    refine TL.call hF nodes_fn rfl rfl ?_
    rintro _ _ ⟨p4, q4, r4, t4, n4, s3, rfl, rfl, hn4⟩
    refine TL.freeze s3 rfl (fun S3 w3 hz3 => ?_)
    have hb := hb.frz hz3
    have hg := hg.old hz3
    have hn4 := hn4.frz hz3
    refine TL.build hF rfl (r := .agg #[.int .i64 2, .int .i64 0]) (fun w => by kernel_rfl) rfl ?_
    refine TL.buildSlice hF rfl (cs := (SetD.cells ⟨2, 0⟩).toArray) (e := 68) (fun w => by kernel_rfl) rfl (fun b38 => ?_)
    refine TL.build hF rfl (r := .agg #[.slice (some ⟨b38, 0, none⟩) 1 1, .slice none 0 0]) (fun w => by kernel_rfl) rfl ?_
    refine TL.buildSlice hF rfl (cs := (([⟨some ⟨b38, 0, none⟩, [⟨2, 0⟩], 1, none, [], 0⟩] : List InstD).flatMap InstD.cells).toArray) (e := 50) (fun w => by kernel_rfl) rfl (fun b40 => ?_)
    have hi4 : Insts S3 w3 [[(b40, Obj.cells (([⟨some ⟨b38, 0, none⟩, [⟨2, 0⟩], 1, none, [], 0⟩] : List InstD).flatMap InstD.cells).toArray 50 (0, 0))], [(b38, Obj.cells (SetD.cells ⟨2, 0⟩).toArray 68 (0, 0))]] (some ⟨b40, 0, none⟩) ([⟨some ⟨b38, 0, none⟩, [⟨2, 0⟩], 1, none, [], 0⟩] : List InstD) := ⟨row_own (e := 50) (by simp), fun x hx => by rw [List.mem_singleton.1 hx]; exact row_own (cs := SetD.cells ⟨2, 0⟩) (e := 68) (by simp), fun x hx => by rw [List.mem_singleton.1 hx]; exact Row.none⟩
    refine TL.freeze [[(b40, Obj.cells (([⟨some ⟨b38, 0, none⟩, [⟨2, 0⟩], 1, none, [], 0⟩] : List InstD).flatMap InstD.cells).toArray 50 (0, 0))], [(b38, Obj.cells (SetD.cells ⟨2, 0⟩).toArray 68 (0, 0))]] rfl (fun S4 w4 hz4 => ?_)
    have hb := hb.frz hz4
    have hg := hg.old hz4
    have hi4 := hi4.frz hz4
    have hn4 := hn4.old hz4
    refine TL.call hF (Run_prog (pick := []) hg hn4 hi4 Row.none (by simp [exN]) (fun x hx => by simp only [exN, List.mem_cons, List.not_mem_nil, or_false] at hx; rcases hx with rfl | rfl | rfl | rfl | rfl | rfl <;> simp) (by simp) (by simp)) rfl rfl ?_
    rintro _ _ ⟨a4, c4, s95, rfl, rfl, j4⟩
    clear j4
    rw [runS_err (k := 2) (by kernel_rfl) (by decide)]
    refine TL.hsub [] (List.nil_sublist _) ?_
    refine TL.move hF rfl rfl ?_
    refine TL.extract hF rfl rfl rfl ?_
    refine TL.extract hF rfl rfl rfl ?_
    refine TL.assign hF rfl rfl ?_
    refine TL.assign hF rfl rfl ?_
    refine TL.nil ?_
    refine TQ.then_n ?_
    refine T.seq ?_
    refine T.region ?_
    refine TL.call hF nodes_fn rfl rfl ?_
    rintro _ _ ⟨p5, q5, r5, t5, n5, s5, rfl, rfl, hn5⟩
    refine TL.freeze s5 rfl (fun S5 w5 hz5 => ?_)
    have hb := hb.frz hz5
    have hg := hg.old hz5
    have hn5 := hn5.frz hz5
    refine TL.buildSlice hF rfl (cs := (ints [6]).toArray) (e := 3) (fun w => by kernel_rfl) rfl (fun b46 => ?_)
    refine TL.build hF rfl (r := .agg #[.slice none 0 0, .slice (some ⟨b46, 0, none⟩) 1 1]) (fun w => by kernel_rfl) rfl ?_
    refine TL.buildSlice hF rfl (cs := (([⟨none, [], 0, some ⟨b46, 0, none⟩, [6], 1⟩] : List InstD).flatMap InstD.cells).toArray) (e := 50) (fun w => by kernel_rfl) rfl (fun b48 => ?_)
    have hi5 : Insts S5 w5 [[(b48, Obj.cells (([⟨none, [], 0, some ⟨b46, 0, none⟩, [6], 1⟩] : List InstD).flatMap InstD.cells).toArray 50 (0, 0))], [(b46, Obj.cells (ints [6]).toArray 3 (0, 0))]] (some ⟨b48, 0, none⟩) ([⟨none, [], 0, some ⟨b46, 0, none⟩, [6], 1⟩] : List InstD) := ⟨row_own (e := 50) (by simp), fun x hx => by rw [List.mem_singleton.1 hx]; exact Row.none, fun x hx => by rw [List.mem_singleton.1 hx]; exact row_own (cs := ints [6]) (e := 3) (by simp)⟩
    refine TL.freeze [[(b48, Obj.cells (([⟨none, [], 0, some ⟨b46, 0, none⟩, [6], 1⟩] : List InstD).flatMap InstD.cells).toArray 50 (0, 0))], [(b46, Obj.cells (ints [6]).toArray 3 (0, 0))]] rfl (fun S6 w6 hz6 => ?_)
    have hb := hb.frz hz6
    have hg := hg.old hz6
    have hi5 := hi5.frz hz6
    have hn5 := hn5.old hz6
    refine TL.call hF (Run_prog (pick := []) hg hn5 hi5 Row.none (by simp [exN]) (fun x hx => by simp only [exN, List.mem_cons, List.not_mem_nil, or_false] at hx; rcases hx with rfl | rfl | rfl | rfl | rfl | rfl <;> simp) (by simp) (by simp)) rfl rfl ?_
    rintro _ _ ⟨a5, c5, s94, rfl, rfl, j5⟩
    clear j5
    rw [runS_err (k := 2) (by kernel_rfl) (by decide)]
    refine TL.hsub [] (List.nil_sublist _) ?_
    refine TL.move hF rfl rfl ?_
    refine TL.extract hF rfl rfl rfl ?_
    refine TL.extract hF rfl rfl rfl ?_
    refine TL.assign hF rfl rfl ?_
    refine TL.assign hF rfl rfl ?_
    refine TL.nil ?_
    refine TQ.then_n ?_
    refine T.seq ?_
    refine T.region ?_
    refine TL.call hF nodes_fn rfl rfl ?_
    rintro _ _ ⟨p6, q6, r6, t6, n6, s7, rfl, rfl, hn6⟩
    refine TL.freeze s7 rfl (fun S7 w7 hz7 => ?_)
    have hb := hb.frz hz7
    have hg := hg.old hz7
    have hn6 := hn6.frz hz7
    refine TL.buildSlice hF rfl (cs := (ints [-1]).toArray) (e := 3) (fun w => by kernel_rfl) rfl (fun b54 => ?_)
    have hp6 : Row S7 w7 [[(b54, Obj.cells (ints [-1]).toArray 3 (0, 0))]] (some ⟨b54, 0, none⟩) (ints [-1]) := row_own (e := 3) (by simp)
    refine TL.freeze [[(b54, Obj.cells (ints [-1]).toArray 3 (0, 0))]] rfl (fun S8 w8 hz8 => ?_)
    have hb := hb.frz hz8
    have hg := hg.old hz8
    have hp6 := hp6.frz hz8
    have hn6 := hn6.old hz8
    refine TL.call hF (Run_prog (ia := none) (all := []) (pick := [-1]) hg hn6 ⟨Row.none, by simp, by simp⟩ hp6 (by simp [exN]) (fun x hx => by simp only [exN, List.mem_cons, List.not_mem_nil, or_false] at hx; rcases hx with rfl | rfl | rfl | rfl | rfl | rfl <;> simp) (by simp) (by simp)) rfl rfl ?_
    rintro _ _ ⟨a6, c6, s93, rfl, rfl, j6⟩
    clear j6
    rw [runS_err (k := 2) (by kernel_rfl) (by decide)]
    refine TL.hsub [] (List.nil_sublist _) ?_
    refine TL.move hF rfl rfl ?_
    refine TL.extract hF rfl rfl rfl ?_
    refine TL.extract hF rfl rfl rfl ?_
    refine TL.assign hF rfl rfl ?_
    refine TL.assign hF rfl rfl ?_
    refine TL.nil ?_
    refine TQ.then_n ?_
    refine T.seq ?_
    refine T.region ?_
    refine TL.call hF nodes_fn rfl rfl ?_
    rintro _ _ ⟨p7, q7, r7, t7, n7, s9, rfl, rfl, hn7⟩
    refine TL.freeze s9 rfl (fun S9 w9 hz9 => ?_)
    have hb := hb.frz hz9
    have hg := hg.old hz9
    have hn7 := hn7.frz hz9
    refine TL.buildSlice hF rfl (cs := (ints [1]).toArray) (e := 3) (fun w => by kernel_rfl) rfl (fun b60 => ?_)
    have hp7 : Row S9 w9 [[(b60, Obj.cells (ints [1]).toArray 3 (0, 0))]] (some ⟨b60, 0, none⟩) (ints [1]) := row_own (e := 3) (by simp)
    refine TL.freeze [[(b60, Obj.cells (ints [1]).toArray 3 (0, 0))]] rfl (fun S10 w10 hz10 => ?_)
    have hb := hb.frz hz10
    have hg := hg.old hz10
    have hp7 := hp7.frz hz10
    have hn7 := hn7.old hz10
    refine TL.call hF (Scratch_prog (ws := [1]) hg hn7 (by simp [exN]) (fun x hx => by simp only [exN, List.mem_cons, List.not_mem_nil, or_false] at hx; rcases hx with rfl | rfl | rfl | rfl | rfl | rfl <;> simp) hp7 (by simp)) rfl rfl ?_
    rintro _ _ ⟨a7, c7, s92, rfl, rfl, j7⟩
    clear j7
    rw [show scratchS (exN p7 q7 r7 t7) [1] = ([], 2) by kernel_rfl]
    refine TL.hsub [] (List.nil_sublist _) ?_
    refine TL.move hF rfl rfl ?_
    refine TL.extract hF rfl rfl rfl ?_
    refine TL.extract hF rfl rfl rfl ?_
    refine TL.assign hF rfl rfl ?_
    refine TL.assign hF rfl rfl ?_
    refine TL.nil ?_
    refine TQ.then_n ?_
    refine T.seq ?_
    refine T.region ?_
    refine TL.move hF rfl rfl ?_
    refine TL.on rfl rfl rfl rfl ?_
    refine TL.move hF rfl rfl ?_
    refine TL.on rfl rfl rfl rfl ?_
    refine TL.bin hF rfl rfl rfl rfl ?_
    refine TL.pickT hF rfl rfl rfl rfl ?_
    refine TL.move hF rfl rfl ?_
    refine TL.on rfl rfl rfl rfl ?_
    refine TL.move hF rfl rfl ?_
    refine TL.on rfl rfl rfl rfl ?_
    refine TL.move hF rfl rfl ?_
    refine TL.on rfl rfl rfl rfl ?_
    refine TL.bin hF rfl rfl rfl rfl ?_
    refine TL.pickT hF rfl rfl rfl rfl ?_
    refine TL.move hF rfl rfl ?_
    refine TL.on rfl rfl rfl rfl ?_
    refine TL.move hF rfl rfl ?_
    refine TL.on rfl rfl rfl rfl ?_
    refine TL.bin hF rfl rfl rfl rfl ?_
    refine TL.pickT hF rfl rfl rfl rfl ?_
    refine TL.move hF rfl rfl ?_
    refine TL.on rfl rfl rfl rfl ?_
    refine TL.move hF rfl rfl ?_
    refine TL.on rfl rfl rfl rfl ?_
    refine TL.bin hF rfl rfl rfl rfl ?_
    refine TL.pickT hF rfl rfl rfl rfl ?_
    refine TL.move hF rfl rfl ?_
    refine TL.on rfl rfl rfl rfl ?_
    refine TL.move hF rfl rfl ?_
    refine TL.on rfl rfl rfl rfl ?_
    refine TL.move hF rfl rfl ?_
    refine TL.on rfl rfl rfl rfl ?_
    refine TL.bin hF rfl rfl rfl rfl ?_
    refine TL.pickT hF rfl rfl rfl rfl ?_
    refine TL.move hF rfl rfl ?_
    refine TL.on rfl rfl rfl rfl ?_
    refine TL.move hF rfl rfl ?_
    refine TL.on rfl rfl rfl rfl ?_
    refine TL.move hF rfl rfl ?_
    refine TL.on rfl rfl rfl rfl ?_
    refine TL.bin hF rfl rfl rfl rfl ?_
    refine TL.pickT hF rfl rfl rfl rfl ?_
    refine TL.move hF rfl rfl ?_
    refine TL.on rfl rfl rfl rfl ?_
    refine TL.move hF rfl rfl ?_
    refine TL.on rfl rfl rfl rfl ?_
    refine TL.move hF rfl rfl ?_
    refine TL.on rfl rfl rfl rfl ?_
    refine TL.bin hF rfl rfl rfl rfl ?_
    refine TL.pickT hF rfl rfl rfl rfl ?_
    refine TL.move hF rfl rfl ?_
    refine TL.on rfl rfl rfl rfl ?_
    refine TL.call hF (awake_fn hg) rfl rfl ?_
    rintro _ _ rfl
    refine TL.pickT hF rfl rfl rfl rfl ?_
    refine TL.assign hF rfl rfl ?_
    refine TL.nil ?_
    refine TQ.then_n ?_
    refine T.ret ?_
    exact TQ.retsF [0] _ hb rfl rfl rfl (fun _ => rfl)
end Go.Proofs.YtefkmiomldhmjaaDoor
