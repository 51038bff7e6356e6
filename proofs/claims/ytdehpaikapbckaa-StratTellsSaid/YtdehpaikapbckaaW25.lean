/- The law's own leaves: what is far too much; the document's examples. -/
import Derived.Test.YtdehpaikapbckaaW24
import Derived.Test.YtdehpaikapbckaaBase15
namespace Go.Proofs.Ytdehpaikapbckaa
open Go.Sl
variable {S : Nat → Prop} {w0 : World} {η : Heap}
set_option maxHeartbeats 2000000 in
theorem farL_fn {p : Option Addr} {rs : List RuleD} {c : Nat} (hr : Rules S w0 [] p rs) (hl : rs.length < 2 ^ 63) (hbl : ∀ r ∈ rs, r.body.length < 2 ^ 63) :
    Rt Try.prog 8 [.slice p rs.length c].toArray S w0 η (fun v η' => ∃ b, v = .bool b ∧ η' = η) := by
  have hF := open_wide
  refine Rt.of (fn := Try.f8) Try.func8 rfl rfl ?_
  refine T.seq ?_
  refine T.region ?_
  refine TL.assign hF rfl rfl ?_
  refine TL.nil ?_
  refine TQ.then_n ?_
  refine T.seq ?_
  refine T.region ?_
  refine TL.move hF rfl rfl ?_
  refine TL.len hF rfl rfl ?_
  refine TL.assign hF rfl rfl ?_
  refine TL.nil ?_
  refine TQ.then_n ?_
  refine T.seq ?_
  refine T.seq ?_
  refine T.region ?_
  refine TL.move hF rfl rfl ?_
  refine TL.len hF rfl rfl ?_
  refine TL.move hF rfl rfl ?_
  refine TL.nil ?_
  refine TQ.then_n ?_
  refine T.block ?_
  refine T.loop (ι := Nat × Int) (fun i => i.1 ≤ rs.length) (fun i => [(10, .slice p rs.length c), (11, .int .i64 (rs.length : Int)), (3, .int .i64 i.2), (12, .int .i64 (i.1 : Int))]) (fun _ => η) (fun i => rs.length - i.1) (0, (rs.length : Int)) (Nat.zero_le _) ⟨rfl, rfl, rfl, rfl, trivial⟩ rfl ?_
  rintro ⟨k, z⟩ hk
  simp only at hk
  refine T.seq ?_
  refine T.region ?_
  refine TL.bin hF rfl rfl rfl rfl ?_
  refine TL.nil ?_
  refine TQ.then_n ?_
  refine T.seq ?_
  first | refine T.cond_d rfl (fun ht13 => ?_) (fun ht13 => ?_) | refine T.cond _ rfl (fun ht13 => ?_) (fun ht13 => ?_)
  · refine T.skip ?_
    refine TQ.then_n ?_
    refine T.seq ?_
    refine T.block ?_
    refine T.seq ?_
    refine T.region ?_
    refine TL.indexAddr hF rfl rfl (hr.ad (by omega)) (by omega) (by omega) rfl ?_
    have hkl : k < rs.length := by have h : (k : Int) < rs.length := ht13; omega
    have hbk := hbl rs[k] (List.getElem_mem _)
    refine TL.loadA hF rs[k].cells rfl rfl (hr.ro.atA hkl) rfl ?_
    refine TL.alloc hF rfl (fun b5 => ?_)
    refine TL.storeAI hF rs[k].cells 0 rfl rfl rfl rfl (by simp [RuleD.cells, Value.oneCell']) (by simp [Value.cells, cells_len]) ?_
    refine TL.nil ?_
    refine TQ.then_n ?_
    refine T.seq ?_
    refine T.region ?_
    refine TL.move hF rfl rfl ?_
    refine TL.fieldAddr hF rfl rfl ?_
    refine TL.fieldAddr hF rfl rfl ?_
    refine TL.load hF rfl (own_list (i := 0) (cs := rs[k].cells) rfl 1 _ rfl) rfl ?_
    refine TL.len hF rfl rfl ?_
    refine TL.fieldAddr hF rfl rfl ?_
    refine TL.fieldAddr hF rfl rfl ?_
    refine TL.load hF rfl (own_list (i := 0) (cs := rs[k].cells) rfl 3 _ rfl) rfl ?_
    refine TL.len hF rfl rfl ?_
    refine TL.addK hF rfl rfl rfl rfl ?_
    refine TL.addK hF rfl rfl rfl rfl ?_
    refine TL.assign hF rfl rfl ?_
    refine TL.nil ?_
    refine TQ.then_n ?_
    refine T.seq ?_
    refine T.region ?_
    refine TL.fieldAddr hF rfl rfl ?_
    refine TL.fieldAddr hF rfl rfl ?_
    refine TL.load hF rfl (own_list (i := 0) (cs := rs[k].cells) rfl 2 _ rfl) rfl ?_
    refine TL.len hF rfl rfl ?_
    refine TL.move hF rfl rfl ?_
    refine TL.nil ?_
    refine TQ.then_n ?_
    refine T.block ?_
    refine T.loop (ι := Nat × Int) (fun i => i.1 ≤ rs[k].body.length) (fun i => [(10, .slice p rs.length c), (11, .int .i64 (rs.length : Int)), (12, .int .i64 (k : Int)), (3, .int .i64 i.2), (29, .slice rs[k].ba rs[k].body.length rs[k].bc), (30, .int .i64 (rs[k].body.length : Int)), (31, .int .i64 (i.1 : Int))]) (fun _ => [(b5, .cells rs[k].cells.toArray 53 (0, 0))] :: η) (fun i => rs[k].body.length - i.1) (0, _) (Nat.zero_le _) ⟨rfl, rfl, rfl, rfl, rfl, rfl, rfl, trivial⟩ rfl ?_
    rintro ⟨j, y⟩ hj
    simp only at hj
    refine T.seq ?_
    refine T.region ?_
    refine TL.bin hF rfl rfl rfl rfl ?_
    refine TL.nil ?_
    refine TQ.then_n ?_
    refine T.seq ?_
    first | refine T.cond_d rfl (fun ht32 => ?_) (fun ht32 => ?_) | refine T.cond _ rfl (fun ht32 => ?_) (fun ht32 => ?_)
    · refine T.skip ?_
      refine TQ.then_n ?_
      refine T.seq ?_
      refine T.block ?_
      refine T.seq ?_
      refine T.region ?_
      refine TL.indexAddr hF rfl rfl (hr.bad hkl (by omega)) (by omega) (by omega) rfl ?_
      have hjl : j < rs[k].body.length := by have h : (j : Int) < rs[k].body.length := ht32; omega
      refine TL.loadA hF rs[k].body[j].cells rfl rfl (hr.ro.batA hkl hjl) rfl ?_
      refine TL.alloc hF rfl (fun b7 => ?_)
      refine TL.storeAI hF rs[k].body[j].cells 0 rfl rfl rfl rfl (by simp [AtomD.cells, Value.oneCell']) (by simp [Value.cells, acells_len]) ?_
      refine TL.nil ?_
      refine TQ.then_n ?_
      refine T.region ?_
      refine TL.move hF rfl rfl ?_
      refine TL.fieldAddr hF rfl rfl ?_
      refine TL.load hF rfl (own_list (i := 0) (cs := rs[k].body[j].cells) rfl 2 _ rfl) rfl ?_
      refine TL.len hF rfl rfl ?_
      refine TL.addK hF rfl rfl rfl rfl ?_
      refine TL.addK hF rfl rfl rfl rfl ?_
      refine TL.assign hF rfl rfl ?_
      refine TL.nil ?_
      refine TQ.block_n ?_
      refine TQ.then_n ?_
      refine T.region ?_
      refine TL.add hF rfl rfl (by omega) (by omega) rfl ?_
      refine TL.move hF rfl rfl ?_
      refine TL.nil ?_
      refine TQ.pop ?_
      exact TQ.round (j + 1, _) (by simp only; omega) (by simp only; omega) ⟨rfl, rfl, rfl, rfl, rfl, rfl, rfl, trivial⟩ rfl
    · refine T.exit ?_
      refine TQ.then_x ?_
      refine TQ.then_x ?_
      refine TQ.block_x ?_
      refine TQ.block_n ?_
      refine TQ.then_n ?_
      refine T.region ?_
      refine TL.add hF rfl rfl (by omega) (by omega) rfl ?_
      refine TL.move hF rfl rfl ?_
      refine TL.nil ?_
      refine TQ.pop ?_
      exact TQ.round (k + 1, _) (by simp only; omega) (by simp only; omega) ⟨rfl, rfl, rfl, rfl, trivial⟩ rfl
  · refine T.exit ?_
    refine TQ.then_x ?_
    refine TQ.then_x ?_
    refine TQ.block_x ?_
    refine TQ.then_n ?_
    refine T.seq ?_
    refine T.region ?_
    refine TL.move hF rfl rfl ?_
    refine TL.bin hF rfl rfl rfl rfl ?_
    refine TL.assign hF rfl rfl ?_
    refine TL.nil ?_
    refine TQ.then_n ?_
    refine T.ret ?_
    refine TQ.rets [2] _ rfl rfl rfl ?_
    exact ⟨_, rfl, rfl⟩
def mkA (n : Int) : AtomD := ⟨n, false, none, 0, 0⟩
def denA (n : Int) : AtomD := ⟨n, true, none, 0, 0⟩
def usesB (denied : Int) (l : List Int) : List AtomD := l.map mkA ++ if 0 ≤ denied then [denA denied] else []
def mkR (head : Int) (body : List AtomD) (a : Option Addr) (cap : Nat) : RuleD := ⟨head, none, 0, 0, a, cap, body, none, 0, 0⟩
theorem atoms1 (l : List AtomD) : ∀ u ∈ l.flatMap AtomD.cells, u.oneCell' = true := by
  intro u hu
  obtain ⟨x, _, h⟩ := List.mem_flatMap.1 hu
  simp only [AtomD.cells, List.mem_cons, List.not_mem_nil, or_false] at h
  rcases h with rfl | rfl | rfl <;> rfl

set_option maxHeartbeats 2000000 in
theorem usesL_fn {p : Option Addr} {l : List Int} {c : Nat} (hd dn : Int) (hx : Row S w0 η p (ints l)) (hl : l.length ≤ 1000) :
    Rt Try.prog 54 [.int .i64 hd, .int .i64 dn, .slice p l.length c].toArray S w0 η (fun v η' => ∃ a cap seg, v = .agg (mkR hd (usesB dn l) a cap).cells.toArray ∧ η' = seg :: η ∧ OSl 55 3 (.slice a (usesB dn l).length cap) (usesB dn l).length ((usesB dn l).flatMap AtomD.cells) seg) := by
  have hF := open_wide
  refine Rt.of (fn := Try.f54) Try.func54 rfl rfl ?_
  refine T.seq ?_
  refine T.region ?_
  refine TL.alloc hF rfl (fun b6 => ?_)
  refine TL.nil ?_
  refine TQ.then_n ?_
  refine T.seq ?_
  refine T.region ?_
  refine TL.move hF rfl rfl ?_
  refine TL.build hF rfl (r := .agg #[.int .i64 hd, .slice none 0 0, .slice none 0 0, .slice none 0 0]) (fun w => by kernel_rfl) rfl ?_
  refine TL.alloc hF rfl (fun b7 => ?_)
  refine TL.storeAI hF [.int .i64 hd, .slice none 0 0, .slice none 0 0, .slice none 0 0] 0 rfl rfl rfl rfl (by simp [Value.oneCell']) (by simp [Value.cells]) ?_
  refine TL.nil ?_
  refine TQ.then_n ?_
  refine T.seq ?_
  refine T.seq ?_
  refine T.region ?_
  refine TL.move hF rfl rfl ?_
  refine TL.len hF rfl rfl ?_
  refine TL.move hF rfl rfl ?_
  refine TL.nil ?_
  refine TQ.then_n ?_
  refine T.block ?_
  refine T.hnil ?_
  refine T.loop (ι := Nat × Option Addr × Nat × Seg) (fun i => i.1 ≤ l.length ∧ OSl 55 3 (.slice i.2.1 ((l.take i.1).map mkA).length i.2.2.1) ((l.take i.1).map mkA).length (((l.take i.1).map mkA).flatMap AtomD.cells) i.2.2.2) (fun i => [(0, .int .i64 hd), (1, .int .i64 dn), (6, ptr b6), (7, ptr b7), (12, .slice p l.length c), (13, .int .i64 (l.length : Int)), (14, .int .i64 (i.1 : Int))]) (fun i => i.2.2.2 :: [(b7, .cells #[.int .i64 hd, .slice none 0 0, .slice i.2.1 ((l.take i.1).map mkA).length i.2.2.1, .slice none 0 0] 53 (0, 0))] :: [(b6, .cells #[.int .i64 0, .slice none 0 0, .slice none 0 0, .slice none 0 0] 53 (0, 0))] :: η) (fun i => l.length - i.1) (0, none, 0, []) ⟨Nat.zero_le _, OSl.nil 55 3⟩ ⟨rfl, rfl, rfl, rfl, rfl, rfl, rfl, trivial⟩ rfl ?_
  rintro ⟨k, oa, oc, og⟩ ⟨hk, ho⟩
  simp only at hk ho
  refine T.seq ?_
  refine T.region ?_
  refine TL.bin hF rfl rfl rfl rfl ?_
  refine TL.nil ?_
  refine TQ.then_n ?_
  refine T.seq ?_
  first | refine T.cond_d rfl (fun ht15 => ?_) (fun ht15 => ?_) | refine T.cond _ rfl (fun ht15 => ?_) (fun ht15 => ?_)
  · refine T.skip ?_
    refine TQ.then_n ?_
    refine T.seq ?_
    refine T.block ?_
    refine T.seq ?_
    refine T.region ?_
    have hkl : k < l.length := by have h : (k : Int) < l.length := ht15; omega
    refine TL.indexAddr hF rfl rfl (hx.adi (i := k) (by simp; omega)) (by omega) (by omega) rfl ?_
    refine TL.load hF rfl ((hx.up (fun x hx => by simp [hx])).int (i := k) (by omega)) rfl ?_
    refine TL.assign hF rfl rfl ?_
    refine TL.nil ?_
    refine TQ.then_n ?_
    refine T.region ?_
    refine TL.fieldAddr hF rfl rfl ?_
    refine TL.fieldAddr hF rfl rfl ?_
    refine TL.load hF rfl (own_list (i := 1) (cs := [.int .i64 hd, .slice none 0 0, .slice oa ((l.take k).map mkA).length oc, .slice none 0 0]) rfl 2 _ rfl) rfl ?_
    refine TL.move hF rfl rfl ?_
    refine TL.build hF rfl (r := .agg #[.int .i64 l[k], .bool false, .slice none 0 0]) (fun w => by kernel_rfl) rfl ?_
    refine TL.buildSlice hF rfl (cs := #[.int .i64 l[k], .bool false, .slice none 0 0]) (e := 55) (fun w => by kernel_rfl) rfl (fun b23 => ?_)
    refine TL.append hF 1 rfl rfl rfl ho (row_own (cs := (mkA l[k]).cells) (e := 55) List.mem_cons_self).src rfl rfl (by simp [Value.oneCell', AtomD.cells, mkA, denA]) (by simp only [List.length_map, List.length_take]; omega) (by simp only [List.length_map, List.length_take]; omega) rfl (fun a' cap' seg' ho' => ?_)
    refine TL.fieldAddr hF rfl rfl ?_
    refine TL.fieldAddr hF rfl rfl ?_
    refine TL.storeI hF 2 rfl rfl rfl rfl (by simp) ?_
    refine TL.nil ?_
    refine TQ.block_n ?_
    refine TQ.then_n ?_
    refine T.region ?_
    refine TL.add hF rfl rfl (by omega) (by omega) rfl ?_
    refine TL.move hF rfl rfl ?_
    refine TL.nil ?_
    have e : (l.take (k + 1)).map mkA = (l.take k).map mkA ++ [mkA l[k]] := by rw [List.take_succ_eq_append_getElem hkl, List.map_append]; rfl
    have e1 : ((l.take (k + 1)).map mkA).length = ((l.take k).map mkA).length + 1 := by rw [e]; simp
    refine TQ.pop ?_
    refine TQ.round (k + 1, a', cap', seg') ⟨by simp only; omega, ?_⟩ (by simp only; omega) ⟨rfl, rfl, rfl, rfl, rfl, rfl, rfl, trivial⟩ (by simp only; rw [e1]; rfl)
    simp only
    rw [e1, e, List.flatMap_append]
    exact ho'
  · refine T.exit ?_
    refine TQ.then_x ?_
    refine TQ.then_x ?_
    refine TQ.block_x ?_
    refine TQ.then_n ?_
    refine T.seq ?_
    refine T.seq ?_
    refine T.region ?_
    refine TL.move hF rfl rfl ?_
    refine TL.bin hF rfl rfl rfl rfl ?_
    refine TL.nil ?_
    refine TQ.then_n ?_
    first | refine T.cond_d rfl (fun ht29 => ?_) (fun ht29 => ?_) | refine T.cond _ rfl (fun ht29 => ?_) (fun ht29 => ?_)
    · refine T.region ?_
      refine TL.fieldAddr hF rfl rfl ?_
      refine TL.fieldAddr hF rfl rfl ?_
      refine TL.load hF rfl (own_list (i := 1) (cs := [.int .i64 hd, .slice none 0 0, .slice oa ((l.take k).map mkA).length oc, .slice none 0 0]) rfl 2 _ rfl) rfl ?_
      refine TL.move hF rfl rfl ?_
      refine TL.build hF rfl (r := .agg #[.int .i64 dn, .bool true, .slice none 0 0]) (fun w => by kernel_rfl) rfl ?_
      refine TL.buildSlice hF rfl (cs := #[.int .i64 dn, .bool true, .slice none 0 0]) (e := 55) (fun w => by kernel_rfl) rfl (fun b35 => ?_)
      refine TL.append hF 1 rfl rfl rfl ho (row_own (cs := (denA dn).cells) (e := 55) List.mem_cons_self).src rfl rfl (by simp [Value.oneCell', AtomD.cells, mkA, denA]) (by simp only [List.length_map, List.length_take]; omega) (by simp only [List.length_map, List.length_take]; omega) rfl (fun a' cap' seg' ho' => ?_)
      refine TL.fieldAddr hF rfl rfl ?_
      refine TL.fieldAddr hF rfl rfl ?_
      refine TL.storeI hF 2 rfl rfl rfl rfl (by simp) ?_
      refine TL.nil ?_
      refine TQ.then_n ?_
      refine T.seq ?_
      refine T.region ?_
      refine TL.loadA hF [.int .i64 hd, .slice none 0 0, .slice a' (((l.take k).map mkA).length + 1) cap', .slice none 0 0] rfl rfl (own_list (i := 2) rfl) rfl ?_
      refine TL.storeAI hF [.int .i64 hd, .slice none 0 0, .slice a' (((l.take k).map mkA).length + 1) cap', .slice none 0 0] 3 rfl rfl rfl rfl (by simp [Value.oneCell']) (by simp [Value.cells]) ?_
      refine TL.nil ?_
      refine TQ.then_n ?_
      refine T.ret ?_
      have hkn : k = l.length := by have h : ¬ (k : Int) < l.length := ht15; omega
      subst hkn
      rw [List.take_length] at ho ho'
      have e : usesB dn l = l.map mkA ++ [denA dn] := by unfold usesB; rw [if_pos (by have h : (0 : Int) ≤ dn := ht29; exact h)]
      have e1 : (usesB dn l).length = (l.map mkA).length + 1 := by rw [e]; simp
      refine TQ.pop ?_
      refine TQ.retC (mkR hd (usesB dn l) a' cap').cells (seg' :: η) rfl rfl rfl (own_list (i := 2) (e := 53) (fz := (0, 0)) ?_) (List.Sublist.cons_cons _ (List.Sublist.cons _ (List.sublist_cons_self _ _))) ⟨a', cap', seg', rfl, rfl, by rw [e1, e, List.flatMap_append]; exact ho'⟩
      simp only [mkR, RuleD.cells, e1, List.take_length]; rfl
    · refine T.skip ?_
      refine TQ.then_n ?_
      refine T.seq ?_
      refine T.region ?_
      refine TL.loadA hF [.int .i64 hd, .slice none 0 0, .slice oa ((l.take k).map mkA).length oc, .slice none 0 0] rfl rfl (own_list (i := 1) rfl) rfl ?_
      refine TL.storeAI hF [.int .i64 hd, .slice none 0 0, .slice oa ((l.take k).map mkA).length oc, .slice none 0 0] 2 rfl rfl rfl rfl (by simp [Value.oneCell']) (by simp [Value.cells]) ?_
      refine TL.nil ?_
      refine TQ.then_n ?_
      refine T.ret ?_
      have hkn : k = l.length := by have h : ¬ (k : Int) < l.length := ht15; omega
      subst hkn
      rw [List.take_length] at ho
      have e : usesB dn l = l.map mkA := by unfold usesB; rw [if_neg (by have h : ¬ (0 : Int) ≤ dn := ht29; exact h)]; simp
      refine TQ.retC (mkR hd (usesB dn l) oa oc).cells (og :: η) rfl rfl rfl (own_list (i := 2) (e := 53) (fz := (0, 0)) ?_) (List.Sublist.cons_cons _ (List.Sublist.cons _ (List.sublist_cons_self _ _))) ⟨oa, oc, og, rfl, rfl, by rw [e]; exact ho⟩
      simp only [mkR, RuleD.cells, e, List.take_length]; rfl
def sampleR (P : Nat → Option Addr × Nat) (more : Bool) : List RuleD :=
  [mkR 1 (usesB (-1) [2, 0]) (P 1).1 (P 1).2, mkR 2 (usesB (-1) [1]) (P 2).1 (P 2).2, mkR 3 (usesB 2 [0]) (P 3).1 (P 3).2, mkR 4 (usesB (-1) [4, 3]) (P 4).1 (P 4).2] ++ bif more then [mkR 2 (usesB 3 []) (P 5).1 (P 5).2] else []
theorem rcells1 (l : List RuleD) : ∀ u ∈ l.flatMap RuleD.cells, u.oneCell' = true := by
  intro u hu
  obtain ⟨x, _, h⟩ := List.mem_flatMap.1 hu
  simp only [RuleD.cells, List.mem_cons, List.not_mem_nil, or_false] at h
  rcases h with rfl | rfl | rfl | rfl <;> rfl

set_option maxHeartbeats 2000000 in
theorem sample_fn (more : Bool) :
    Rt Try.prog 23 [.bool more].toArray S w0 η (fun v η' => ∃ p cap segs P, v = .slice p (sampleR P more).length cap ∧ η' = segs ++ η ∧ Rules S w0 segs p (sampleR P more)) := by
  have hF := open_wide
  refine Rt.of (fn := Try.f23) Try.func23 rfl rfl ?_
  refine T.seq ?_
  refine T.region ?_
  refine TL.assign hF rfl rfl ?_
  refine TL.nil ?_
  refine TQ.then_n ?_
  refine T.seq ?_
  refine T.region ?_
  refine TL.buildSlice hF rfl (cs := #[.int .i64 2, .int .i64 0]) (e := 3) (fun w => by kernel_rfl) rfl (fun b4 => ?_)
  refine TL.call hF (usesL_fn (l := [2, 0]) 1 (-1) (row_own (cs := ints [2, 0]) (e := 3) List.mem_cons_self) (by decide)) rfl rfl ?_
  rintro _ _ ⟨a1, c1, g1, rfl, rfl, h1⟩
  refine TL.buildSlice hF rfl (cs := #[.int .i64 1]) (e := 3) (fun w => by kernel_rfl) rfl (fun b6 => ?_)
  refine TL.call hF (usesL_fn (l := [1]) 2 (-1) (row_own (cs := ints [1]) (e := 3) List.mem_cons_self) (by decide)) rfl rfl ?_
  rintro _ _ ⟨a2, c2, g2, rfl, rfl, h2⟩
  refine TL.buildSlice hF rfl (cs := #[.int .i64 0]) (e := 3) (fun w => by kernel_rfl) rfl (fun b8 => ?_)
  refine TL.call hF (usesL_fn (l := [0]) 3 (2) (row_own (cs := ints [0]) (e := 3) List.mem_cons_self) (by decide)) rfl rfl ?_
  rintro _ _ ⟨a3, c3, g3, rfl, rfl, h3⟩
  refine TL.buildSlice hF rfl (cs := #[.int .i64 4, .int .i64 3]) (e := 3) (fun w => by kernel_rfl) rfl (fun b10 => ?_)
  refine TL.call hF (usesL_fn (l := [4, 3]) 4 (-1) (row_own (cs := ints [4, 3]) (e := 3) List.mem_cons_self) (by decide)) rfl rfl ?_
  rintro _ _ ⟨a4, c4, g4, rfl, rfl, h4⟩
  let P4 : Nat → Option Addr × Nat := fun i => match i with | 1 => (a1, c1) | 2 => (a2, c2) | 3 => (a3, c3) | 4 => (a4, c4) | _ => (none, 0)
  refine TL.buildSlice hF rfl (cs := ((sampleR P4 false).flatMap RuleD.cells).toArray) (e := 53) (fun w => by kernel_rfl) rfl (fun b12 => ?_)
  refine TL.assign hF rfl rfl ?_
  refine TL.nil ?_
  refine TQ.then_n ?_
  refine T.seq ?_
  refine T.seq ?_
  refine T.region ?_
  refine TL.move hF rfl rfl ?_
  refine TL.nil ?_
  refine TQ.then_n ?_
  first | refine T.cond_d rfl (fun ht13 => ?_) (fun ht13 => ?_) | refine T.cond _ rfl (fun ht13 => ?_) (fun ht13 => ?_)
  · refine T.region ?_
    refine TL.move hF rfl rfl ?_
    refine TL.call hF (usesL_fn (l := []) 2 3 (p := none) (c := 0) ⟨fun h => by simp at h, fun i v h => by simp at h⟩ (by decide)) rfl rfl ?_
    rintro _ _ ⟨a5, c5, g5, rfl, rfl, h5⟩
    refine TL.buildSlice hF rfl (cs := (mkR 2 (usesB 3 []) a5 c5).cells.toArray) (e := 53) (fun w => by kernel_rfl) rfl (fun b16 => ?_)
    refine TL.append hF 2 (k := 4) (xs := (sampleR P4 false).flatMap RuleD.cells) rfl rfl rfl ⟨rfl, .inr ⟨b12, 4, _, rfl, rfl, Nat.le_refl _, rfl, rfl⟩⟩ (row_own (cs := (mkR 2 (usesB 3 []) a5 c5).cells) (e := 53) List.mem_cons_self).src rfl rfl (by intro u hu; simp only [mkR, RuleD.cells, List.mem_cons, List.not_mem_nil, or_false] at hu; rcases hu with rfl | rfl | rfl | rfl <;> rfl) (by decide) (by decide) rfl (fun a' cap' seg' ho' => ?_)
    refine TL.assign hF rfl rfl ?_
    refine TL.nil ?_
    refine TQ.then_n ?_
    refine T.seq ?_
    refine T.region ?_
    refine TL.move hF rfl rfl ?_
    refine TL.assign hF rfl rfl ?_
    refine TL.nil ?_
    refine TQ.then_n ?_
    refine T.ret ?_
    let P5 : Nat → Option Addr × Nat := fun i => match i with | 1 => (a1, c1) | 2 => (a2, c2) | 3 => (a3, c3) | 4 => (a4, c4) | 5 => (a5, c5) | _ => (none, 0)
    refine TQ.rets [2] _ rfl rfl rfl ⟨a', cap', ([(b16, .cells (mkR 2 (usesB 3 []) a5 c5).cells.toArray 53 (0, 0))] :: g5 :: seg' :: g4 :: [(b10, .cells #[.int .i64 4, .int .i64 3] 3 (0, 0))] :: g3 :: [(b8, .cells #[.int .i64 0] 3 (0, 0))] :: g2 :: [(b6, .cells #[.int .i64 1] 3 (0, 0))] :: g1 :: [(b4, .cells #[.int .i64 2, .int .i64 0] 3 (0, 0))] :: []), P5, ?_, rfl, ⟨?_, ?_⟩⟩
    · have e : (sampleR P5 true).length = 4 + 1 := rfl
      rw [ht13, e]; rfl
    · rw [ht13]
      exact ho'.row (by simp)
    · rw [ht13]
      intro r hr
      simp only [sampleR, cond_true, List.cons_append, List.nil_append, List.mem_cons, List.not_mem_nil, or_false] at hr
      rcases hr with rfl | rfl | rfl | rfl | rfl
      · exact h1.row (by simp)
      · exact h2.row (by simp)
      · exact h3.row (by simp)
      · exact h4.row (by simp)
      · exact h5.row (by simp)
  · refine T.skip ?_
    refine TQ.then_n ?_
    refine T.seq ?_
    refine T.region ?_
    refine TL.move hF rfl rfl ?_
    refine TL.assign hF rfl rfl ?_
    refine TL.nil ?_
    refine TQ.then_n ?_
    refine T.ret ?_
    refine TQ.rets [2] _ rfl rfl rfl ⟨some ⟨b12, 0, none⟩, 4, ([(b12, .cells ((sampleR P4 false).flatMap RuleD.cells).toArray 53 (0, 0))] :: g4 :: [(b10, .cells #[.int .i64 4, .int .i64 3] 3 (0, 0))] :: g3 :: [(b8, .cells #[.int .i64 0] 3 (0, 0))] :: g2 :: [(b6, .cells #[.int .i64 1] 3 (0, 0))] :: g1 :: [(b4, .cells #[.int .i64 2, .int .i64 0] 3 (0, 0))] :: []), P4, ?_, rfl, ⟨?_, ?_⟩⟩
    · rw [ht13]; rfl
    · rw [ht13]
      exact row_own (e := 53) List.mem_cons_self
    · rw [ht13]
      intro r hr
      simp only [sampleR, cond_false, List.append_nil, List.mem_cons, List.not_mem_nil, or_false] at hr
      rcases hr with rfl | rfl | rfl | rfl
      · exact h1.row (by simp)
      · exact h2.row (by simp)
      · exact h3.row (by simp)
      · exact h4.row (by simp)
end Go.Proofs.Ytdehpaikapbckaa
