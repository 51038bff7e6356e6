/- Several texts in one. -/
import Derived.Test.YtdehpaikapbckaaPe
import Derived.Test.YtdehpaikapbckaaPb
/- The law's own leaves: what is far too much; the document's examples. -/
namespace Go.Proofs.Ytdehpaikapbckaa
open Go.Sl
variable {S : Nat → Prop} {w0 : World} {η : Heap}
set_option maxHeartbeats 2000000 in
theorem farL_fn {p : Option Addr} {rs : List RuleD} {c : Nat} (hr : Rules S w0 [] p rs) (hl : rs.length < 2 ^ 63) (hbl : ∀ r ∈ rs, r.body.length < 2 ^ 63) :
    Rt Try.prog 8 [.slice p rs.length c].toArray S w0 η (fun v η' => ∃ b, v = .bool b ∧ η' = η) := by
  have hF := open_wide
  refine Rt.of (fn := Try.f8) Try.func8 rfl rfl ?_
  refine T.seq ?_
  refine T.region ?_
  refine TL.assign hF rfl rfl ?_
  refine TL.nil ?_
  refine TQ.then_n ?_
  refine T.seq ?_
  refine T.region ?_
  refine TL.move hF rfl rfl ?_
  refine TL.len hF rfl rfl ?_
  refine TL.assign hF rfl rfl ?_
  refine TL.nil ?_
  refine TQ.then_n ?_
  refine T.seq ?_
  refine T.seq ?_
  refine T.region ?_
  refine TL.move hF rfl rfl ?_
  refine TL.len hF rfl rfl ?_
  refine TL.move hF rfl rfl ?_
  refine TL.nil ?_
  refine TQ.then_n ?_
  refine T.block ?_
  refine T.loop (ι := Nat × Int) (fun i => i.1 ≤ rs.length) (fun i => [(10, .slice p rs.length c), (11, .int .i64 (rs.length : Int)), (3, .int .i64 i.2), (12, .int .i64 (i.1 : Int))]) (fun _ => η) (fun i => rs.length - i.1) (0, (rs.length : Int)) (Nat.zero_le _) ⟨rfl, rfl, rfl, rfl, trivial⟩ rfl ?_
  rintro ⟨k, z⟩ hk
  simp only at hk
  refine T.seq ?_
  refine T.region ?_
  refine TL.bin hF rfl rfl rfl rfl ?_
  refine TL.nil ?_
  refine TQ.then_n ?_
  refine T.seq ?_
  first | refine T.cond_d rfl (fun ht13 => ?_) (fun ht13 => ?_) | refine T.cond _ rfl (fun ht13 => ?_) (fun ht13 => ?_)
  · refine T.skip ?_
    refine TQ.then_n ?_
    refine T.seq ?_
    refine T.block ?_
    refine T.seq ?_
    refine T.region ?_
    refine TL.indexAddr hF rfl rfl (hr.ad (by omega)) (by omega) (by omega) rfl ?_
    have hkl : k < rs.length := by have h : (k : Int) < rs.length := ht13; omega
    have hbk := hbl rs[k] (List.getElem_mem _)
    refine TL.loadA hF rs[k].cells rfl rfl (hr.ro.atA hkl) rfl ?_
    refine TL.alloc hF rfl (fun b5 => ?_)
    refine TL.storeAI hF rs[k].cells 0 rfl rfl rfl rfl (by simp [RuleD.cells, Value.oneCell']) (by simp [Value.cells, cells_len]) ?_
    refine TL.nil ?_
    refine TQ.then_n ?_
    refine T.seq ?_
    refine T.region ?_
    refine TL.move hF rfl rfl ?_
    refine TL.fieldAddr hF rfl rfl ?_
    refine TL.fieldAddr hF rfl rfl ?_
    refine TL.load hF rfl (own_list (i := 0) (cs := rs[k].cells) rfl 1 _ rfl) rfl ?_
    refine TL.len hF rfl rfl ?_
    refine TL.fieldAddr hF rfl rfl ?_
    refine TL.fieldAddr hF rfl rfl ?_
    refine TL.load hF rfl (own_list (i := 0) (cs := rs[k].cells) rfl 3 _ rfl) rfl ?_
    refine TL.len hF rfl rfl ?_
    refine TL.addK hF rfl rfl rfl rfl ?_
    refine TL.addK hF rfl rfl rfl rfl ?_
    refine TL.assign hF rfl rfl ?_
    refine TL.nil ?_
    refine TQ.then_n ?_
    refine T.seq ?_
    refine T.region ?_
    refine TL.fieldAddr hF rfl rfl ?_
    refine TL.fieldAddr hF rfl rfl ?_
    refine TL.load hF rfl (own_list (i := 0) (cs := rs[k].cells) rfl 2 _ rfl) rfl ?_
    refine TL.len hF rfl rfl ?_
    refine TL.move hF rfl rfl ?_
    refine TL.nil ?_
    refine TQ.then_n ?_
    refine T.block ?_
    refine T.loop (ι := Nat × Int) (fun i => i.1 ≤ rs[k].body.length) (fun i => [(10, .slice p rs.length c), (11, .int .i64 (rs.length : Int)), (12, .int .i64 (k : Int)), (3, .int .i64 i.2), (29, .slice rs[k].ba rs[k].body.length rs[k].bc), (30, .int .i64 (rs[k].body.length : Int)), (31, .int .i64 (i.1 : Int))]) (fun _ => [(b5, .cells rs[k].cells.toArray 53 (0, 0))] :: η) (fun i => rs[k].body.length - i.1) (0, _) (Nat.zero_le _) ⟨rfl, rfl, rfl, rfl, rfl, rfl, rfl, trivial⟩ rfl ?_
    rintro ⟨j, y⟩ hj
    simp only at hj
    refine T.seq ?_
    refine T.region ?_
    refine TL.bin hF rfl rfl rfl rfl ?_
    refine TL.nil ?_
    refine TQ.then_n ?_
    refine T.seq ?_
    first | refine T.cond_d rfl (fun ht32 => ?_) (fun ht32 => ?_) | refine T.cond _ rfl (fun ht32 => ?_) (fun ht32 => ?_)
    · refine T.skip ?_
      refine TQ.then_n ?_
      refine T.seq ?_
      refine T.block ?_
      refine T.seq ?_
      refine T.region ?_
      refine TL.indexAddr hF rfl rfl (hr.bad hkl (by omega)) (by omega) (by omega) rfl ?_
      have hjl : j < rs[k].body.length := by have h : (j : Int) < rs[k].body.length := ht32; omega
      refine TL.loadA hF rs[k].body[j].cells rfl rfl (hr.ro.batA hkl hjl) rfl ?_
      refine TL.alloc hF rfl (fun b7 => ?_)
      refine TL.storeAI hF rs[k].body[j].cells 0 rfl rfl rfl rfl (by simp [AtomD.cells, Value.oneCell']) (by simp [Value.cells, acells_len]) ?_
      refine TL.nil ?_
      refine TQ.then_n ?_
      refine T.region ?_
      refine TL.move hF rfl rfl ?_
      refine TL.fieldAddr hF rfl rfl ?_
      refine TL.load hF rfl (own_list (i := 0) (cs := rs[k].body[j].cells) rfl 2 _ rfl) rfl ?_
      refine TL.len hF rfl rfl ?_
      refine TL.addK hF rfl rfl rfl rfl ?_
      refine TL.addK hF rfl rfl rfl rfl ?_
      refine TL.assign hF rfl rfl ?_
      refine TL.nil ?_
      refine TQ.block_n ?_
      refine TQ.then_n ?_
      refine T.region ?_
      refine TL.add hF rfl rfl (by omega) (by omega) rfl ?_
      refine TL.move hF rfl rfl ?_
      refine TL.nil ?_
      refine TQ.pop ?_
      exact TQ.round (j + 1, _) (by simp only; omega) (by simp only; omega) ⟨rfl, rfl, rfl, rfl, rfl, rfl, rfl, trivial⟩ rfl
    · refine T.exit ?_
      refine TQ.then_x ?_
      refine TQ.then_x ?_
      refine TQ.block_x ?_
      refine TQ.block_n ?_
      refine TQ.then_n ?_
      refine T.region ?_
      refine TL.add hF rfl rfl (by omega) (by omega) rfl ?_
      refine TL.move hF rfl rfl ?_
      refine TL.nil ?_
      refine TQ.pop ?_
      exact TQ.round (k + 1, _) (by simp only; omega) (by simp only; omega) ⟨rfl, rfl, rfl, rfl, trivial⟩ rfl
  · refine T.exit ?_
    refine TQ.then_x ?_
    refine TQ.then_x ?_
    refine TQ.block_x ?_
    refine TQ.then_n ?_
    refine T.seq ?_
    refine T.region ?_
    refine TL.move hF rfl rfl ?_
    refine TL.bin hF rfl rfl rfl rfl ?_
    refine TL.assign hF rfl rfl ?_
    refine TL.nil ?_
    refine TQ.then_n ?_
    refine T.ret ?_
    refine TQ.rets [2] _ rfl rfl rfl ?_
    exact ⟨_, rfl, rfl⟩
def mkA (n : Int) : AtomD := ⟨n, false, none, 0, 0⟩
def denA (n : Int) : AtomD := ⟨n, true, none, 0, 0⟩
def usesB (denied : Int) (l : List Int) : List AtomD := l.map mkA ++ if 0 ≤ denied then [denA denied] else []
def mkR (head : Int) (body : List AtomD) (a : Option Addr) (cap : Nat) : RuleD := ⟨head, none, 0, 0, a, cap, body, none, 0, 0⟩
theorem atoms1 (l : List AtomD) : ∀ u ∈ l.flatMap AtomD.cells, u.oneCell' = true := by
  intro u hu
  obtain ⟨x, _, h⟩ := List.mem_flatMap.1 hu
  simp only [AtomD.cells, List.mem_cons, List.not_mem_nil, or_false] at h
  rcases h with rfl | rfl | rfl <;> rfl

set_option maxHeartbeats 2000000 in
theorem usesL_fn {p : Option Addr} {l : List Int} {c : Nat} (hd dn : Int) (hx : Row S w0 η p (ints l)) (hl : l.length ≤ 1000) :
    Rt Try.prog 54 [.int .i64 hd, .int .i64 dn, .slice p l.length c].toArray S w0 η (fun v η' => ∃ a cap seg, v = .agg (mkR hd (usesB dn l) a cap).cells.toArray ∧ η' = seg :: η ∧ OSl 55 3 (.slice a (usesB dn l).length cap) (usesB dn l).length ((usesB dn l).flatMap AtomD.cells) seg) := by
  have hF := open_wide
  refine Rt.of (fn := Try.f54) Try.func54 rfl rfl ?_
  refine T.seq ?_
  refine T.region ?_
  refine TL.alloc hF rfl (fun b6 => ?_)
  refine TL.nil ?_
  refine TQ.then_n ?_
  refine T.seq ?_
  refine T.region ?_
  refine TL.move hF rfl rfl ?_
  refine TL.build hF rfl (r := .agg #[.int .i64 hd, .slice none 0 0, .slice none 0 0, .slice none 0 0]) (fun w => by kernel_rfl) rfl ?_
  refine TL.alloc hF rfl (fun b7 => ?_)
  refine TL.storeAI hF [.int .i64 hd, .slice none 0 0, .slice none 0 0, .slice none 0 0] 0 rfl rfl rfl rfl (by simp [Value.oneCell']) (by simp [Value.cells]) ?_
  refine TL.nil ?_
  refine TQ.then_n ?_
  refine T.seq ?_
  refine T.seq ?_
  refine T.region ?_
  refine TL.move hF rfl rfl ?_
  refine TL.len hF rfl rfl ?_
  refine TL.move hF rfl rfl ?_
  refine TL.nil ?_
  refine TQ.then_n ?_
  refine T.block ?_
  refine T.hnil ?_
  refine T.loop (ι := Nat × Option Addr × Nat × Seg) (fun i => i.1 ≤ l.length ∧ OSl 55 3 (.slice i.2.1 ((l.take i.1).map mkA).length i.2.2.1) ((l.take i.1).map mkA).length (((l.take i.1).map mkA).flatMap AtomD.cells) i.2.2.2) (fun i => [(0, .int .i64 hd), (1, .int .i64 dn), (6, ptr b6), (7, ptr b7), (12, .slice p l.length c), (13, .int .i64 (l.length : Int)), (14, .int .i64 (i.1 : Int))]) (fun i => i.2.2.2 :: [(b7, .cells #[.int .i64 hd, .slice none 0 0, .slice i.2.1 ((l.take i.1).map mkA).length i.2.2.1, .slice none 0 0] 53 (0, 0))] :: [(b6, .cells #[.int .i64 0, .slice none 0 0, .slice none 0 0, .slice none 0 0] 53 (0, 0))] :: η) (fun i => l.length - i.1) (0, none, 0, []) ⟨Nat.zero_le _, OSl.nil 55 3⟩ ⟨rfl, rfl, rfl, rfl, rfl, rfl, rfl, trivial⟩ rfl ?_
  rintro ⟨k, oa, oc, og⟩ ⟨hk, ho⟩
  simp only at hk ho
  refine T.seq ?_
  refine T.region ?_
  refine TL.bin hF rfl rfl rfl rfl ?_
  refine TL.nil ?_
  refine TQ.then_n ?_
  refine T.seq ?_
  first | refine T.cond_d rfl (fun ht15 => ?_) (fun ht15 => ?_) | refine T.cond _ rfl (fun ht15 => ?_) (fun ht15 => ?_)
  · refine T.skip ?_
    refine TQ.then_n ?_
    refine T.seq ?_
    refine T.block ?_
    refine T.seq ?_
    refine T.region ?_
    have hkl : k < l.length := by have h : (k : Int) < l.length := ht15; omega
    refine TL.indexAddr hF rfl rfl (hx.adi (i := k) (by simp; omega)) (by omega) (by omega) rfl ?_
    refine TL.load hF rfl ((hx.up (fun x hx => by simp [hx])).int (i := k) (by omega)) rfl ?_
    refine TL.assign hF rfl rfl ?_
    refine TL.nil ?_
    refine TQ.then_n ?_
    refine T.region ?_
    refine TL.fieldAddr hF rfl rfl ?_
    refine TL.fieldAddr hF rfl rfl ?_
    refine TL.load hF rfl (own_list (i := 1) (cs := [.int .i64 hd, .slice none 0 0, .slice oa ((l.take k).map mkA).length oc, .slice none 0 0]) rfl 2 _ rfl) rfl ?_
    refine TL.move hF rfl rfl ?_
    refine TL.build hF rfl (r := .agg #[.int .i64 l[k], .bool false, .slice none 0 0]) (fun w => by kernel_rfl) rfl ?_
    refine TL.buildSlice hF rfl (cs := #[.int .i64 l[k], .bool false, .slice none 0 0]) (e := 55) (fun w => by kernel_rfl) rfl (fun b23 => ?_)
    refine TL.append hF 1 rfl rfl rfl ho (row_own (cs := (mkA l[k]).cells) (e := 55) List.mem_cons_self).src rfl rfl (by simp [Value.oneCell', AtomD.cells, mkA]) (by simp only [List.length_map, List.length_take]; omega) (by simp only [List.length_map, List.length_take]; omega) rfl (fun a' cap' seg' ho' => ?_)
    refine TL.fieldAddr hF rfl rfl ?_
    refine TL.fieldAddr hF rfl rfl ?_
    refine TL.storeI hF 2 rfl rfl rfl rfl (by simp) ?_
    refine TL.nil ?_
    refine TQ.block_n ?_
    refine TQ.then_n ?_
    refine T.region ?_
    refine TL.add hF rfl rfl (by omega) (by omega) rfl ?_
    refine TL.move hF rfl rfl ?_
    refine TL.nil ?_
    have e : (l.take (k + 1)).map mkA = (l.take k).map mkA ++ [mkA l[k]] := by rw [List.take_succ_eq_append_getElem hkl, List.map_append]; rfl
    have e1 : ((l.take (k + 1)).map mkA).length = ((l.take k).map mkA).length + 1 := by rw [e]; simp
    refine TQ.pop ?_
    refine TQ.round (k + 1, a', cap', seg') ⟨by simp only; omega, ?_⟩ (by simp only; omega) ⟨rfl, rfl, rfl, rfl, rfl, rfl, rfl, trivial⟩ (by simp only; rw [e1]; rfl)
    simp only
    rw [e1, e, List.flatMap_append]
    exact ho'
  · refine T.exit ?_
    refine TQ.then_x ?_
    refine TQ.then_x ?_
    refine TQ.block_x ?_
    refine TQ.then_n ?_
    refine T.seq ?_
    refine T.seq ?_
    refine T.region ?_
    refine TL.move hF rfl rfl ?_
    refine TL.bin hF rfl rfl rfl rfl ?_
    refine TL.nil ?_
    refine TQ.then_n ?_
    first | refine T.cond_d rfl (fun ht29 => ?_) (fun ht29 => ?_) | refine T.cond _ rfl (fun ht29 => ?_) (fun ht29 => ?_)
    · refine T.region ?_
      refine TL.fieldAddr hF rfl rfl ?_
      refine TL.fieldAddr hF rfl rfl ?_
      refine TL.load hF rfl (own_list (i := 1) (cs := [.int .i64 hd, .slice none 0 0, .slice oa ((l.take k).map mkA).length oc, .slice none 0 0]) rfl 2 _ rfl) rfl ?_
      refine TL.move hF rfl rfl ?_
      refine TL.build hF rfl (r := .agg #[.int .i64 dn, .bool true, .slice none 0 0]) (fun w => by kernel_rfl) rfl ?_
      refine TL.buildSlice hF rfl (cs := #[.int .i64 dn, .bool true, .slice none 0 0]) (e := 55) (fun w => by kernel_rfl) rfl (fun b35 => ?_)
      refine TL.append hF 1 rfl rfl rfl ho (row_own (cs := (denA dn).cells) (e := 55) List.mem_cons_self).src rfl rfl (by simp [Value.oneCell', AtomD.cells, denA]) (by simp only [List.length_map, List.length_take]; omega) (by simp only [List.length_map, List.length_take]; omega) rfl (fun a' cap' seg' ho' => ?_)
      refine TL.fieldAddr hF rfl rfl ?_
      refine TL.fieldAddr hF rfl rfl ?_
      refine TL.storeI hF 2 rfl rfl rfl rfl (by simp) ?_
      refine TL.nil ?_
      refine TQ.then_n ?_
      refine T.seq ?_
      refine T.region ?_
      refine TL.loadA hF [.int .i64 hd, .slice none 0 0, .slice a' (((l.take k).map mkA).length + 1) cap', .slice none 0 0] rfl rfl (own_list (i := 2) rfl) rfl ?_
      refine TL.storeAI hF [.int .i64 hd, .slice none 0 0, .slice a' (((l.take k).map mkA).length + 1) cap', .slice none 0 0] 3 rfl rfl rfl rfl (by simp [Value.oneCell']) (by simp) ?_
      refine TL.nil ?_
      refine TQ.then_n ?_
      refine T.ret ?_
      have hkn : k = l.length := by have h : ¬ (k : Int) < l.length := ht15; omega
      subst hkn
      rw [List.take_length] at ho ho'
      have e : usesB dn l = l.map mkA ++ [denA dn] := by unfold usesB; rw [if_pos (by have h : (0 : Int) ≤ dn := ht29; exact h)]
      have e1 : (usesB dn l).length = (l.map mkA).length + 1 := by rw [e]; simp
      refine TQ.pop ?_
      refine TQ.retC (mkR hd (usesB dn l) a' cap').cells (seg' :: η) rfl rfl rfl (own_list (i := 2) (e := 53) (fz := (0, 0)) ?_) (List.Sublist.cons_cons _ (List.Sublist.cons _ (List.sublist_cons_self _ _))) ⟨a', cap', seg', rfl, rfl, by rw [e1, e, List.flatMap_append]; exact ho'⟩
      simp only [mkR, RuleD.cells, e1, List.take_length]; rfl
    · refine T.skip ?_
      refine TQ.then_n ?_
      refine T.seq ?_
      refine T.region ?_
      refine TL.loadA hF [.int .i64 hd, .slice none 0 0, .slice oa ((l.take k).map mkA).length oc, .slice none 0 0] rfl rfl (own_list (i := 1) rfl) rfl ?_
      refine TL.storeAI hF [.int .i64 hd, .slice none 0 0, .slice oa ((l.take k).map mkA).length oc, .slice none 0 0] 2 rfl rfl rfl rfl (by simp [Value.oneCell']) (by simp) ?_
      refine TL.nil ?_
      refine TQ.then_n ?_
      refine T.ret ?_
      have hkn : k = l.length := by have h : ¬ (k : Int) < l.length := ht15; omega
      subst hkn
      rw [List.take_length] at ho
      have e : usesB dn l = l.map mkA := by unfold usesB; rw [if_neg (by have h : ¬ (0 : Int) ≤ dn := ht29; exact h)]; simp
      refine TQ.retC (mkR hd (usesB dn l) oa oc).cells (og :: η) rfl rfl rfl (own_list (i := 2) (e := 53) (fz := (0, 0)) ?_) (List.Sublist.cons_cons _ (List.Sublist.cons _ (List.sublist_cons_self _ _))) ⟨oa, oc, og, rfl, rfl, by rw [e]; exact ho⟩
      simp only [mkR, RuleD.cells, e, List.take_length]; rfl
def sampleR (P : Nat → Option Addr × Nat) (more : Bool) : List RuleD :=
  [mkR 1 (usesB (-1) [2, 0]) (P 1).1 (P 1).2, mkR 2 (usesB (-1) [1]) (P 2).1 (P 2).2, mkR 3 (usesB 2 [0]) (P 3).1 (P 3).2, mkR 4 (usesB (-1) [4, 3]) (P 4).1 (P 4).2] ++ bif more then [mkR 2 (usesB 3 []) (P 5).1 (P 5).2] else []
theorem rcells1 (l : List RuleD) : ∀ u ∈ l.flatMap RuleD.cells, u.oneCell' = true := by
  intro u hu
  obtain ⟨x, _, h⟩ := List.mem_flatMap.1 hu
  simp only [RuleD.cells, List.mem_cons, List.not_mem_nil, or_false] at h
  rcases h with rfl | rfl | rfl | rfl <;> rfl

set_option maxHeartbeats 2000000 in
theorem sample_fn (more : Bool) :
    Rt Try.prog 23 [.bool more].toArray S w0 η (fun v η' => ∃ p cap segs P, v = .slice p (sampleR P more).length cap ∧ η' = segs ++ η ∧ Rules S w0 segs p (sampleR P more)) := by
  have hF := open_wide
  refine Rt.of (fn := Try.f23) Try.func23 rfl rfl ?_
  refine T.seq ?_
  refine T.region ?_
  refine TL.assign hF rfl rfl ?_
  refine TL.nil ?_
  refine TQ.then_n ?_
  refine T.seq ?_
  refine T.region ?_
  refine TL.buildSlice hF rfl (cs := #[.int .i64 2, .int .i64 0]) (e := 3) (fun w => by kernel_rfl) rfl (fun b4 => ?_)
  refine TL.call hF (usesL_fn (l := [2, 0]) 1 (-1) (row_own (cs := ints [2, 0]) (e := 3) List.mem_cons_self) (by decide)) rfl rfl ?_
  rintro _ _ ⟨a1, c1, g1, rfl, rfl, h1⟩
  refine TL.buildSlice hF rfl (cs := #[.int .i64 1]) (e := 3) (fun w => by kernel_rfl) rfl (fun b6 => ?_)
  refine TL.call hF (usesL_fn (l := [1]) 2 (-1) (row_own (cs := ints [1]) (e := 3) List.mem_cons_self) (by decide)) rfl rfl ?_
  rintro _ _ ⟨a2, c2, g2, rfl, rfl, h2⟩
  refine TL.buildSlice hF rfl (cs := #[.int .i64 0]) (e := 3) (fun w => by kernel_rfl) rfl (fun b8 => ?_)
  refine TL.call hF (usesL_fn (l := [0]) 3 (2) (row_own (cs := ints [0]) (e := 3) List.mem_cons_self) (by decide)) rfl rfl ?_
  rintro _ _ ⟨a3, c3, g3, rfl, rfl, h3⟩
  refine TL.buildSlice hF rfl (cs := #[.int .i64 4, .int .i64 3]) (e := 3) (fun w => by kernel_rfl) rfl (fun b10 => ?_)
  refine TL.call hF (usesL_fn (l := [4, 3]) 4 (-1) (row_own (cs := ints [4, 3]) (e := 3) List.mem_cons_self) (by decide)) rfl rfl ?_
  rintro _ _ ⟨a4, c4, g4, rfl, rfl, h4⟩
  let P4 : Nat → Option Addr × Nat := fun i => match i with | 1 => (a1, c1) | 2 => (a2, c2) | 3 => (a3, c3) | 4 => (a4, c4) | _ => (none, 0)
  refine TL.buildSlice hF rfl (cs := ((sampleR P4 false).flatMap RuleD.cells).toArray) (e := 53) (fun w => by kernel_rfl) rfl (fun b12 => ?_)
  refine TL.assign hF rfl rfl ?_
  refine TL.nil ?_
  refine TQ.then_n ?_
  refine T.seq ?_
  refine T.seq ?_
  refine T.region ?_
  refine TL.move hF rfl rfl ?_
  refine TL.nil ?_
  refine TQ.then_n ?_
  first | refine T.cond_d rfl (fun ht13 => ?_) (fun ht13 => ?_) | refine T.cond _ rfl (fun ht13 => ?_) (fun ht13 => ?_)
  · refine T.region ?_
    refine TL.move hF rfl rfl ?_
    refine TL.call hF (usesL_fn (l := []) 2 3 (p := none) (c := 0) ⟨fun h => by simp at h, fun i v h => by simp at h⟩ (by decide)) rfl rfl ?_
    rintro _ _ ⟨a5, c5, g5, rfl, rfl, h5⟩
    refine TL.buildSlice hF rfl (cs := (mkR 2 (usesB 3 []) a5 c5).cells.toArray) (e := 53) (fun w => by kernel_rfl) rfl (fun b16 => ?_)
    refine TL.append hF 2 (k := 4) (xs := (sampleR P4 false).flatMap RuleD.cells) rfl rfl rfl ⟨rfl, .inr ⟨b12, 4, _, rfl, rfl, Nat.le_refl _, rfl, rfl⟩⟩ (row_own (cs := (mkR 2 (usesB 3 []) a5 c5).cells) (e := 53) List.mem_cons_self).src rfl rfl (by intro u hu; simp only [mkR, RuleD.cells, List.mem_cons, List.not_mem_nil, or_false] at hu; rcases hu with rfl | rfl | rfl | rfl <;> rfl) (by decide) (by decide) rfl (fun a' cap' seg' ho' => ?_)
    refine TL.assign hF rfl rfl ?_
    refine TL.nil ?_
    refine TQ.then_n ?_
    refine T.seq ?_
    refine T.region ?_
    refine TL.move hF rfl rfl ?_
    refine TL.assign hF rfl rfl ?_
    refine TL.nil ?_
    refine TQ.then_n ?_
    refine T.ret ?_
    let P5 : Nat → Option Addr × Nat := fun i => match i with | 1 => (a1, c1) | 2 => (a2, c2) | 3 => (a3, c3) | 4 => (a4, c4) | 5 => (a5, c5) | _ => (none, 0)
    refine TQ.rets [2] _ rfl rfl rfl ⟨a', cap', ([(b16, .cells (mkR 2 (usesB 3 []) a5 c5).cells.toArray 53 (0, 0))] :: g5 :: seg' :: g4 :: [(b10, .cells #[.int .i64 4, .int .i64 3] 3 (0, 0))] :: g3 :: [(b8, .cells #[.int .i64 0] 3 (0, 0))] :: g2 :: [(b6, .cells #[.int .i64 1] 3 (0, 0))] :: g1 :: [(b4, .cells #[.int .i64 2, .int .i64 0] 3 (0, 0))] :: []), P5, ?_, rfl, ⟨?_, ?_⟩⟩
    · have e : (sampleR P5 true).length = 4 + 1 := rfl
      rw [ht13, e]; rfl
    · rw [ht13]
      exact ho'.row (by simp)
    · rw [ht13]
      intro r hr
      simp only [sampleR, cond_true, List.cons_append, List.nil_append, List.mem_cons, List.not_mem_nil, or_false] at hr
      rcases hr with rfl | rfl | rfl | rfl | rfl
      · exact h1.row (by simp)
      · exact h2.row (by simp)
      · exact h3.row (by simp)
      · exact h4.row (by simp)
      · exact h5.row (by simp)
  · refine T.skip ?_
    refine TQ.then_n ?_
    refine T.seq ?_
    refine T.region ?_
    refine TL.move hF rfl rfl ?_
    refine TL.assign hF rfl rfl ?_
    refine TL.nil ?_
    refine TQ.then_n ?_
    refine T.ret ?_
    refine TQ.rets [2] _ rfl rfl rfl ⟨some ⟨b12, 0, none⟩, 4, ([(b12, .cells ((sampleR P4 false).flatMap RuleD.cells).toArray 53 (0, 0))] :: g4 :: [(b10, .cells #[.int .i64 4, .int .i64 3] 3 (0, 0))] :: g3 :: [(b8, .cells #[.int .i64 0] 3 (0, 0))] :: g2 :: [(b6, .cells #[.int .i64 1] 3 (0, 0))] :: g1 :: [(b4, .cells #[.int .i64 2, .int .i64 0] 3 (0, 0))] :: []), P4, ?_, rfl, ⟨?_, ?_⟩⟩
    · rw [ht13]; rfl
    · rw [ht13]
      exact row_own (e := 53) List.mem_cons_self
    · rw [ht13]
      intro r hr
      simp only [sampleR, cond_false, List.append_nil, List.mem_cons, List.not_mem_nil, or_false] at hr
      rcases hr with rfl | rfl | rfl | rfl
      · exact h1.row (by simp)
      · exact h2.row (by simp)
      · exact h3.row (by simp)
      · exact h4.row (by simp)
end Go.Proofs.Ytdehpaikapbckaa
/- The document's examples. -/
namespace Go.Proofs.Ytdehpaikapbckaa
open Go.Sl
variable {S : Nat → Prop} {w0 : World} {η : Heap}
theorem Rules.frz {S' : Nat → Prop} {w1 : World} {ηr : Heap} {a : Option Addr} {rs : List RuleD} (h : Rules S w0 ηr a rs) (hz : Frz S S' w0 w1 ηr) : Rules S' w1 [] a rs := ⟨h.row.frz hz, fun r hr => (h.body r hr).frz hz⟩
theorem Rules.old {S' : Nat → Prop} {w1 : World} {ηr : Heap} {a : Option Addr} {rs : List RuleD} (h : Rules S w0 [] a rs) (hz : Frz S S' w0 w1 ηr) : Rules S' w1 [] a rs := ⟨h.row.old hz, fun r hr => (h.body r hr).old hz⟩
theorem OutL.frz {S' : Nat → Prop} {w1 : World} {ηr : Heap} {a : Option Addr} {ls : List (List Nat)} (h : OutL S w0 ηr a ls) (hz : Frz S S' w0 w1 ηr) : OutL S' w1 [] a ls := by
  obtain ⟨ps, h1, h2, h3⟩ := h
  exact ⟨ps, h1, h2.frz hz, fun i a b => (h3 i a b).frz hz⟩
theorem OutL.old {S' : Nat → Prop} {w1 : World} {ηr : Heap} {a : Option Addr} {ls : List (List Nat)} (h : OutL S w0 [] a ls) (hz : Frz S S' w0 w1 ηr) : OutL S' w1 [] a ls := by
  obtain ⟨ps, h1, h2, h3⟩ := h
  exact ⟨ps, h1, h2.old hz, fun i a b => (h3 i a b).old hz⟩
theorem sample_body (P : Nat → Option Addr × Nat) (more : Bool) : ∀ r ∈ sampleR P more, r.body.length < 2 ^ 63 := by
  cases more <;> intro r hr <;> simp only [sampleR, cond_true, cond_false, List.append_nil, List.cons_append, List.nil_append, List.mem_cons, List.not_mem_nil, or_false] at hr
  · rcases hr with rfl | rfl | rfl | rfl <;> (show (usesB _ _).length < 2 ^ 63; decide)
  · rcases hr with rfl | rfl | rfl | rfl | rfl <;> (show (usesB _ _).length < 2 ^ 63; decide)
theorem aw1 (P : Nat → Option Addr × Nat) : blocksS 5 (sampleR P false) = ([[0], [1, 2], [3], [4]], 0) := by kernel_rfl
theorem aw2 (P : Nat → Option Addr × Nat) : levelsS 5 (sampleR P false) = ([0, 0, 0, 1, 1], 0) := by kernel_rfl
theorem aw3 (P : Nat → Option Addr × Nat) : reasonS 5 (sampleR P false) = ([], 4) := by kernel_rfl
theorem aw4 (P : Nat → Option Addr × Nat) : reasonS 5 (sampleR P true) = ([2, 3], 0) := by kernel_rfl
theorem aw5 (P : Nat → Option Addr × Nat) : blocksS 5 (sampleR P true) = ([], 10) := by kernel_rfl
theorem aw6 (P : Nat → Option Addr × Nat) : reachS 5 (sampleR P false) [2] = ([1, 2, 3, 4], 0) := by kernel_rfl

theorem awB {p : Option Addr} {c : Nat} {P : Nat → Option Addr × Nat} (hr : Rules S w0 [] p (sampleR P false)) : Rt Try.prog 10 [.int .i64 5, .slice p 4 c].toArray S w0 η (fun v η' => ∃ a cap segs, v = .tuple #[.slice a 4 cap, .int .i64 0] ∧ η' = segs ++ η ∧ OutL S w0 segs a [[0], [1, 2], [3], [4]]) := by
  have h := Blocks_prog (η := η) (c := c) 5 hr (show (4 : Nat) < 2 ^ 63 by decide) (sample_body P false)
  rw [aw1] at h; exact h
theorem awL {p : Option Addr} {c : Nat} {P : Nat → Option Addr × Nat} (hr : Rules S w0 [] p (sampleR P false)) : Rt Try.prog 14 [.int .i64 5, .slice p 4 c].toArray S w0 η (fun v η' => ∃ a cap segs, v = .tuple #[.slice a 5 cap, .int .i64 0] ∧ η' = segs ++ η ∧ Row S w0 segs a (ints [0, 0, 0, 1, 1])) := by
  have h := Levels_prog (η := η) (c := c) 5 hr (show (4 : Nat) < 2 ^ 63 by decide) (sample_body P false)
  rw [aw2] at h; exact h
theorem awN {p : Option Addr} {c : Nat} {P : Nat → Option Addr × Nat} (hr : Rules S w0 [] p (sampleR P false)) : Rt Try.prog 12 [.int .i64 5, .slice p 4 c].toArray S w0 η (fun v η' => ∃ a cap segs, v = .tuple #[.slice a 0 cap, .int .i64 4] ∧ η' = segs ++ η) := by
  have h := Reason_prog (η := η) (c := c) 5 hr (show (4 : Nat) < 2 ^ 63 by decide) (sample_body P false)
  rw [aw3] at h; exact h.mono fun v η' ⟨a, cap, segs, h1, h2, _⟩ => ⟨a, cap, segs, h1, h2⟩
theorem awR {p : Option Addr} {c : Nat} {P : Nat → Option Addr × Nat} (hr : Rules S w0 [] p (sampleR P true)) : Rt Try.prog 12 [.int .i64 5, .slice p 5 c].toArray S w0 η (fun v η' => ∃ a cap segs, v = .tuple #[.slice a 2 cap, .int .i64 0] ∧ η' = segs ++ η ∧ Row S w0 segs a (ints [2, 3])) := by
  have h := Reason_prog (η := η) (c := c) 5 hr (show (5 : Nat) < 2 ^ 63 by decide) (sample_body P true)
  rw [aw4] at h; exact h
theorem awC {p : Option Addr} {c : Nat} {P : Nat → Option Addr × Nat} (hr : Rules S w0 [] p (sampleR P true)) : Rt Try.prog 10 [.int .i64 5, .slice p 5 c].toArray S w0 η (fun v η' => ∃ a cap segs, v = .tuple #[.slice a 0 cap, .int .i64 10] ∧ η' = segs ++ η) := by
  have h := Blocks_prog (η := η) (c := c) 5 hr (show (5 : Nat) < 2 ^ 63 by decide) (sample_body P true)
  rw [aw5] at h; exact h.mono fun v η' ⟨a, cap, segs, h1, h2, _⟩ => ⟨a, cap, segs, h1, h2⟩
theorem awM {p : Option Addr} {c fc : Nat} {fa : Option Addr} {P : Nat → Option Addr × Nat} (hr : Rules S w0 [] p (sampleR P false)) (hf : Row S w0 [] fa (ints [2])) : Rt Try.prog 16 [.int .i64 5, .slice p 4 c, .slice fa 1 fc].toArray S w0 η (fun v η' => ∃ a cap segs, v = .tuple #[.slice a 4 cap, .int .i64 0] ∧ η' = segs ++ η ∧ Row S w0 segs a (ints [1, 2, 3, 4])) := by
  have h := Reach_prog (η := η) (c := c) (fc := fc) 5 hr (show (4 : Nat) < 2 ^ 63 by decide) (sample_body P false) hf (by decide)
  rw [aw6] at h; exact h

set_option maxHeartbeats 2000000 in
theorem awake_fn  :
    Rt Try.prog 9 ([] : List Value).toArray S w0 η (fun v _ => v = .bool true) := by
  have hF := open_wide
  refine Rt.of (fn := Try.f9) Try.func9 rfl rfl ?_
  refine T.seq ?_
  refine T.region ?_
  refine TL.assign hF rfl rfl ?_
  refine TL.nil ?_
  refine TQ.then_n ?_
  refine T.seq ?_
  refine T.region ?_
  have hb := Back.refl S w0
  refine TL.freeze η (η2 := []) (by simp) (fun S9 w9 hz9 => ?_)
  have hb := hb.frz hz9
  refine TL.call hF (sample_fn false) rfl rfl ?_
  rintro _ _ ⟨p1, c1, s1, P1, rfl, rfl, r1⟩
  refine TL.freeze s1 rfl (fun S1 w1 hz1 => ?_)
  have hb := hb.frz hz1
  have r1 := r1.frz hz1
  refine TL.call hF (awB r1) rfl rfl ?_
  rintro _ _ ⟨a1, d1, q1, rfl, rfl, hA⟩
  refine TL.freeze q1 rfl (fun S11 w11 hz11 => ?_)
  have hb := hb.frz hz11
  have hA := hA.frz hz11
  refine TL.move hF rfl rfl ?_
  refine TL.extract hF rfl rfl rfl ?_
  refine TL.extract hF rfl rfl rfl ?_
  refine TL.assign hF rfl rfl ?_
  refine TL.assign hF rfl rfl ?_
  refine TL.nil ?_
  refine TQ.then_n ?_
  refine T.seq ?_
  refine T.region ?_
  refine TL.call hF (sample_fn false) rfl rfl ?_
  rintro _ _ ⟨p2, c2, s2, P2, rfl, rfl, r2⟩
  refine TL.freeze s2 rfl (fun S2 w2 hz2 => ?_)
  have hb := hb.frz hz2
  have r2 := r2.frz hz2
  have hA := hA.old hz2
  refine TL.call hF (awL r2) rfl rfl ?_
  rintro _ _ ⟨a2, d2, q2, rfl, rfl, hB⟩
  refine TL.freeze q2 rfl (fun S12 w12 hz12 => ?_)
  have hb := hb.frz hz12
  have hB := hB.frz hz12
  have hA := hA.old hz12
  refine TL.move hF rfl rfl ?_
  refine TL.extract hF rfl rfl rfl ?_
  refine TL.extract hF rfl rfl rfl ?_
  refine TL.assign hF rfl rfl ?_
  refine TL.assign hF rfl rfl ?_
  refine TL.nil ?_
  refine TQ.then_n ?_
  refine T.seq ?_
  refine T.region ?_
  refine TL.call hF (sample_fn false) rfl rfl ?_
  rintro _ _ ⟨p3, c3, s3, P3, rfl, rfl, r3⟩
  refine TL.freeze s3 rfl (fun S3 w3 hz3 => ?_)
  have hb := hb.frz hz3
  have r3 := r3.frz hz3
  have hA := hA.old hz3
  have hB := hB.old hz3
  refine TL.call hF (awN r3) rfl rfl ?_
  rintro _ _ ⟨a3, d3, q3, rfl, rfl⟩
  refine TL.freeze q3 rfl (fun S13 w13 hz13 => ?_)
  have hb := hb.frz hz13
  have hA := hA.old hz13
  have hB := hB.old hz13
  refine TL.move hF rfl rfl ?_
  refine TL.extract hF rfl rfl rfl ?_
  refine TL.extract hF rfl rfl rfl ?_
  refine TL.assign hF rfl rfl ?_
  refine TL.assign hF rfl rfl ?_
  refine TL.nil ?_
  refine TQ.then_n ?_
  refine T.seq ?_
  refine T.region ?_
  refine TL.call hF (sample_fn true) rfl rfl ?_
  rintro _ _ ⟨p4, c4, s4, P4, rfl, rfl, r4⟩
  refine TL.freeze s4 rfl (fun S4 w4 hz4 => ?_)
  have hb := hb.frz hz4
  have r4 := r4.frz hz4
  have hA := hA.old hz4
  have hB := hB.old hz4
  refine TL.call hF (awR r4) rfl rfl ?_
  rintro _ _ ⟨a4, d4, q4, rfl, rfl, hC⟩
  refine TL.freeze q4 rfl (fun S14 w14 hz14 => ?_)
  have hb := hb.frz hz14
  have hC := hC.frz hz14
  have hA := hA.old hz14
  have hB := hB.old hz14
  refine TL.move hF rfl rfl ?_
  refine TL.extract hF rfl rfl rfl ?_
  refine TL.extract hF rfl rfl rfl ?_
  refine TL.assign hF rfl rfl ?_
  refine TL.assign hF rfl rfl ?_
  refine TL.nil ?_
  refine TQ.then_n ?_
  refine T.seq ?_
  refine T.region ?_
  refine TL.call hF (sample_fn true) rfl rfl ?_
  rintro _ _ ⟨p5, c5, s5, P5, rfl, rfl, r5⟩
  refine TL.freeze s5 rfl (fun S5 w5 hz5 => ?_)
  have hb := hb.frz hz5
  have r5 := r5.frz hz5
  have hA := hA.old hz5
  have hB := hB.old hz5
  have hC := hC.old hz5
  refine TL.call hF (awC r5) rfl rfl ?_
  rintro _ _ ⟨a5, d5, q5, rfl, rfl⟩
  refine TL.freeze q5 rfl (fun S15 w15 hz15 => ?_)
  have hb := hb.frz hz15
  have hA := hA.old hz15
  have hB := hB.old hz15
  have hC := hC.old hz15
  refine TL.move hF rfl rfl ?_
  refine TL.extract hF rfl rfl rfl ?_
  refine TL.extract hF rfl rfl rfl ?_
  refine TL.assign hF rfl rfl ?_
  refine TL.assign hF rfl rfl ?_
  refine TL.nil ?_
  refine TQ.then_n ?_
  refine T.seq ?_
  refine T.region ?_
  refine TL.call hF (sample_fn false) rfl rfl ?_
  rintro _ _ ⟨p6, c6, s6, P6, rfl, rfl, r6⟩
  refine TL.freeze s6 rfl (fun S6 w6 hz6 => ?_)
  have hb := hb.frz hz6
  have r6 := r6.frz hz6
  have hA := hA.old hz6
  have hB := hB.old hz6
  have hC := hC.old hz6
  refine TL.buildSlice hF rfl (cs := #[.int .i64 2]) (e := 3) (fun w => by kernel_rfl) rfl (fun b40 => ?_)
  have hf : Row S6 w6 [[(b40, .cells #[.int .i64 2] 3 (0, 0))]] (some ⟨b40, 0, none⟩) (ints [2]) := row_own (cs := ints [2]) (e := 3) List.mem_cons_self
  refine TL.freeze [[(b40, .cells #[.int .i64 2] 3 (0, 0))]] rfl (fun S7 w7 hz7 => ?_)
  have hb := hb.frz hz7
  have hf := hf.frz hz7
  have hA := hA.old hz7
  have hB := hB.old hz7
  have hC := hC.old hz7
  have r6 := r6.old hz7
  refine TL.call hF (awM r6 hf) rfl rfl ?_
  rintro _ _ ⟨a6, d6, q6, rfl, rfl, hD⟩
  refine TL.freeze q6 rfl (fun S16 w16 hz16 => ?_)
  have hb := hb.frz hz16
  have hD := hD.frz hz16
  have hA := hA.old hz16
  have hB := hB.old hz16
  have hC := hC.old hz16
  refine TL.move hF rfl rfl ?_
  refine TL.extract hF rfl rfl rfl ?_
  refine TL.extract hF rfl rfl rfl ?_
  refine TL.assign hF rfl rfl ?_
  refine TL.assign hF rfl rfl ?_
  refine TL.nil ?_
  refine TQ.then_n ?_
  refine T.seq ?_
  refine T.region ?_
  refine TL.move hF rfl rfl ?_
  refine TL.bin hF rfl rfl rfl rfl ?_
  refine TL.move hF rfl rfl ?_
  refine TL.on rfl rfl rfl (by decide) ?_
  refine TL.move hF rfl rfl ?_
  refine TL.on rfl rfl rfl (by decide) ?_
  refine TL.move hF rfl rfl ?_
  refine TL.on rfl rfl rfl (by decide) ?_
  refine TL.bin hF rfl rfl rfl rfl ?_
  refine TL.pickT hF rfl (by decide) rfl rfl ?_
  refine TL.move hF rfl rfl ?_
  refine TL.on rfl rfl rfl (by decide) ?_
  refine TL.move hF rfl rfl ?_
  refine TL.on rfl rfl rfl (by decide) ?_
  refine TL.bin hF rfl rfl rfl rfl ?_
  refine TL.pickT hF rfl (by decide) rfl rfl ?_
  refine TL.move hF rfl rfl ?_
  refine TL.on rfl rfl rfl (by decide) ?_
  refine TL.move hF rfl rfl ?_
  refine TL.on rfl rfl rfl (by decide) ?_
  refine TL.move hF rfl rfl ?_
  refine TL.on rfl rfl rfl (by decide) ?_
  refine TL.bin hF rfl rfl rfl rfl ?_
  refine TL.pickT hF rfl (by decide) rfl rfl ?_
  refine TL.move hF rfl rfl ?_
  refine TL.on rfl rfl rfl (by decide) ?_
  refine TL.move hF rfl rfl ?_
  refine TL.on rfl rfl rfl (by decide) ?_
  refine TL.bin hF rfl rfl rfl rfl ?_
  refine TL.pickT hF rfl (by decide) rfl rfl ?_
  refine TL.move hF rfl rfl ?_
  refine TL.on rfl rfl rfl (by decide) ?_
  refine TL.move hF rfl rfl ?_
  refine TL.on rfl rfl rfl (by decide) ?_
  refine TL.move hF rfl rfl ?_
  refine TL.on rfl rfl rfl (by decide) ?_
  refine TL.bin hF rfl rfl rfl rfl ?_
  refine TL.pickT hF rfl (by decide) rfl rfl ?_
  refine TL.move hF rfl rfl ?_
  refine TL.on rfl rfl rfl (by decide) ?_
  refine TL.move hF rfl rfl ?_
  refine TL.on rfl rfl rfl (by decide) ?_
  refine TL.buildSlice hF rfl (cs := #[.int .i64 0]) (e := 3) (fun w => by kernel_rfl) rfl (fun b71 => ?_)
  refine TL.on rfl rfl rfl (by decide) ?_
  refine TL.buildSlice hF rfl (cs := #[.int .i64 1, .int .i64 2]) (e := 3) (fun w => by kernel_rfl) rfl (fun b72 => ?_)
  refine TL.on rfl rfl rfl (by decide) ?_
  refine TL.buildSlice hF rfl (cs := #[.int .i64 3]) (e := 3) (fun w => by kernel_rfl) rfl (fun b73 => ?_)
  refine TL.on rfl rfl rfl (by decide) ?_
  refine TL.buildSlice hF rfl (cs := #[.int .i64 4]) (e := 3) (fun w => by kernel_rfl) rfl (fun b74 => ?_)
  refine TL.on rfl rfl rfl (by decide) ?_
  refine TL.buildSlice hF rfl (cs := #[.slice (some ⟨b71, 0, none⟩) 1 1, .slice (some ⟨b72, 0, none⟩) 2 2, .slice (some ⟨b73, 0, none⟩) 1 1, .slice (some ⟨b74, 0, none⟩) 1 1]) (e := 23) (fun w => by kernel_rfl) rfl (fun b75 => ?_)
  refine TL.on rfl rfl rfl (by decide) ?_
  have hY : Lists S16 w16 ([(b75, .cells #[.slice (some ⟨b71, 0, none⟩) 1 1, .slice (some ⟨b72, 0, none⟩) 2 2, .slice (some ⟨b73, 0, none⟩) 1 1, .slice (some ⟨b74, 0, none⟩) 1 1] 23 (0, 0))] :: [(b74, .cells #[.int .i64 4] 3 (0, 0))] :: [(b73, .cells #[.int .i64 3] 3 (0, 0))] :: [(b72, .cells #[.int .i64 1, .int .i64 2] 3 (0, 0))] :: [(b71, .cells #[.int .i64 0] 3 (0, 0))] :: []) (some ⟨b75, 0, none⟩) [[0], [1, 2], [3], [4]] := by
    refine ⟨[(some ⟨b71, 0, none⟩, 1), (some ⟨b72, 0, none⟩, 2), (some ⟨b73, 0, none⟩, 1), (some ⟨b74, 0, none⟩, 1)], rfl, row_own (e := 23) List.mem_cons_self, fun i h1 h2 => ?_⟩
    match i, h1, h2 with
    | 0, _, _ => exact row_own (cs := ints [0]) (e := 3) (by simp [ints])
    | 1, _, _ => exact row_own (cs := ints [1, 2]) (e := 3) (by simp [ints])
    | 2, _, _ => exact row_own (cs := ints [3]) (e := 3) (by simp [ints])
    | 3, _, _ => exact row_own (cs := ints [4]) (e := 3) (by simp [ints])
  have hA2 : Lists S16 w16 ([(b75, .cells #[.slice (some ⟨b71, 0, none⟩) 1 1, .slice (some ⟨b72, 0, none⟩) 2 2, .slice (some ⟨b73, 0, none⟩) 1 1, .slice (some ⟨b74, 0, none⟩) 1 1] 23 (0, 0))] :: [(b74, .cells #[.int .i64 4] 3 (0, 0))] :: [(b73, .cells #[.int .i64 3] 3 (0, 0))] :: [(b72, .cells #[.int .i64 1, .int .i64 2] 3 (0, 0))] :: [(b71, .cells #[.int .i64 0] 3 (0, 0))] :: []) a1 [[0], [1, 2], [3], [4]] := OutL.up hA (by simp)
  refine TL.callV hF (EqualLists_fn hA2 hY (by decide) (by decide)) rfl rfl ?_
  refine TL.pickT hF rfl (by decide) rfl rfl ?_
  refine TL.move hF rfl rfl ?_
  refine TL.on rfl rfl rfl (by decide) ?_
  refine TL.move hF rfl rfl ?_
  refine TL.on rfl rfl rfl (by decide) ?_
  refine TL.buildSlice hF rfl (cs := #[.int .i64 0, .int .i64 0, .int .i64 0, .int .i64 1, .int .i64 1]) (e := 3) (fun w => by kernel_rfl) rfl (fun b80 => ?_)
  refine TL.on rfl rfl rfl (by decide) ?_
  refine TL.callV hF (Equal_fn hB.ro (row_own (cs := ints [0, 0, 0, 1, 1]) (e := 3) List.mem_cons_self) (by decide)) rfl rfl ?_
  refine TL.pickT hF rfl (by decide) rfl rfl ?_
  refine TL.move hF rfl rfl ?_
  refine TL.on rfl rfl rfl (by decide) ?_
  refine TL.move hF rfl rfl ?_
  refine TL.on rfl rfl rfl (by decide) ?_
  refine TL.buildSlice hF rfl (cs := #[.int .i64 2, .int .i64 3]) (e := 3) (fun w => by kernel_rfl) rfl (fun b85 => ?_)
  refine TL.on rfl rfl rfl (by decide) ?_
  refine TL.callV hF (Equal_fn hC.ro (row_own (cs := ints [2, 3]) (e := 3) List.mem_cons_self) (by decide)) rfl rfl ?_
  refine TL.pickT hF rfl (by decide) rfl rfl ?_
  refine TL.move hF rfl rfl ?_
  refine TL.on rfl rfl rfl (by decide) ?_
  refine TL.move hF rfl rfl ?_
  refine TL.on rfl rfl rfl (by decide) ?_
  refine TL.buildSlice hF rfl (cs := #[.int .i64 1, .int .i64 2, .int .i64 3, .int .i64 4]) (e := 3) (fun w => by kernel_rfl) rfl (fun b90 => ?_)
  refine TL.on rfl rfl rfl (by decide) ?_
  refine TL.callV hF (Equal_fn hD.ro (row_own (cs := ints [1, 2, 3, 4]) (e := 3) List.mem_cons_self) (by decide)) rfl rfl ?_
  refine TL.pickT hF rfl (by decide) rfl rfl ?_
  refine TL.assign hF rfl rfl ?_
  refine TL.nil ?_
  refine TQ.then_n ?_
  refine T.ret ?_
  exact TQ.retsF [0] _ hb rfl rfl rfl (fun _ => rfl)
end Go.Proofs.Ytdehpaikapbckaa
/- The first law. -/
namespace Go.Proofs.Ytdehpaikapbckaa
open Go.Sl
variable {S : Nat → Prop} {w0 : World} {η : Heap}
theorem blocksS_len (rels : Int) (rs : List RuleD) : (blocksS rels rs).1.length ≤ 48 ∧ ∀ l ∈ (blocksS rels rs).1, l.length ≤ 48 := by
  unfold blocksS
  split
  · simp
  · rename_i h
    have hk := check_ok (Classical.not_not.1 h)
    split
    · refine ⟨?_, fun l hl => ?_⟩
      · have := orderS_len (n := rels.toNat) (M := fwM (EU rs) rels.toNat) rels.toNat []
        simp only; omega
      · obtain ⟨a, rfl⟩ := orderS_mem _ _ l hl
        have : (blockS rels.toNat (fwM (EU rs) rels.toNat) a).length ≤ (List.range rels.toNat).length := List.length_filter_le _ _
        simp only [List.length_range] at this; omega
    · simp
theorem blocksS_ok {rels : Int} {rs : List RuleD} (h : (blocksS rels rs).2 = 0) : check rels rs = 0 := by
  unfold blocksS at h
  split at h
  · rename_i h2; simp only at h; exact absurd h h2
  · rename_i h2; exact Classical.not_not.1 h2
theorem levelsS_len (rels : Int) (rs : List RuleD) : (levelsS rels rs).1.length ≤ 48 := by
  unfold levelsS
  split
  · simp
  · rename_i h
    have hk := check_ok (blocksS_ok (Classical.not_not.1 h))
    simp; omega
theorem bestS_len {E D : Nat → Nat → Bool} {n : Nat} : ∀ k, k ≤ n → (bestS E D n k).length ≤ n
  | 0, _ => by simp [bestS]
  | k + 1, h => by
    rw [bestS_succ]
    have key : ∀ j, j ≤ n → (rowS E D n k (bestS E D n k) j).length ≤ n := by
      intro j
      induction j with
      | zero => intro _; exact bestS_len k (by omega)
      | succ j ih => intro hj; rw [rowS_succ]; exact tryS_len (by omega) (by omega) (ih (by omega))
    exact key n (Nat.le_refl n)
theorem reasonS_len (rels : Int) (rs : List RuleD) : (reasonS rels rs).1.length ≤ 48 := by
  unfold reasonS
  split
  · simp
  · rename_i h
    have hk := check_ok (Classical.not_not.1 h)
    split
    · simp
    · have := bestS_len (E := EU rs) (D := ED rs) (n := rels.toNat) rels.toNat (Nat.le_refl _)
      simp only; omega
theorem reachS_len (rels : Int) (rs : List RuleD) (fr : List Int) : (reachS rels rs fr).1.length ≤ 48 := by
  unfold reachS
  split
  · simp
  · rename_i h
    have hk := check_ok (Classical.not_not.1 h)
    split
    · simp
    · have := List.length_filter_le (hits (fwM (EU rs) rels.toNat) (fr.map Int.toNat)) (List.range rels.toNat)
      simp only [List.length_range] at this; simp only; omega
theorem EqualN_fn {a b : Option Addr} {xs : List Nat} {ca cb : Nat} (hx : Row S w0 η a (nats xs)) (hy : Row S w0 η b (nats xs)) (hl : xs.length ≤ 48) :
    Rt Try.prog 19 [.slice a xs.length ca, .slice b xs.length cb].toArray S w0 η (fun v η' => v = .bool true ∧ η' = η) := by
  have h := Equal_fn (a := a) (b := b) (xs := casts xs) (ys := casts xs) (ca := ca) (cb := cb) (by unfold casts; rw [← nats_ints]; exact hx) (by unfold casts; rw [← nats_ints]; exact hy) (by simp [casts]; omega)
  simpa [casts] using h
theorem EqualI_fn {a b : Option Addr} {xs : List Int} {ca cb : Nat} (hx : Row S w0 η a (ints xs)) (hy : Row S w0 η b (ints xs)) (hl : xs.length ≤ 48) :
    Rt Try.prog 19 [.slice a xs.length ca, .slice b xs.length cb].toArray S w0 η (fun v η' => v = .bool true ∧ η' = η) := by
  have h := Equal_fn (a := a) (b := b) (xs := xs) (ys := xs) (ca := ca) (cb := cb) hx hy (by omega)
  simpa using h
theorem EqualO_fn {a b : Option Addr} {xs : List (List Nat)} {ca cb : Nat} (hx : OutL S w0 η a xs) (hy : OutL S w0 η b xs) (hl : xs.length ≤ 48) (hll : ∀ l ∈ xs, l.length ≤ 48) :
    Rt Try.prog 18 [.slice a xs.length ca, .slice b xs.length cb].toArray S w0 η (fun v η' => v = .bool true ∧ η' = η) := by
  have h := EqualLists_fn (ca := ca) (cb := cb) hx hy (by simp; omega) (by
    intro l hl'; obtain ⟨l2, h2, rfl⟩ := List.mem_map.1 hl'; have := hll l2 h2; simp; omega)
  simpa using h

set_option maxHeartbeats 2000000 in
theorem StratTells_fn {p fa : Option Addr} {rs : List RuleD} {fr : List Int} {c fc : Nat} (rels : Int) (hr : Rules S w0 [] p rs) (hl : rs.length < 2 ^ 63) (hbl : ∀ r ∈ rs, r.body.length < 2 ^ 63) (hfr : Row S w0 [] fa (ints fr)) :
    Rt Try.prog 3 [.int .i64 rels, .slice p rs.length c, .slice fa fr.length fc].toArray S w0 [] (fun v _ => v = .bool true) := by
  have hF := open_wide
  refine Rt.of (fn := Try.f3) Try.func3 rfl rfl ?_
  refine T.seq ?_
  refine T.region ?_
  refine TL.assign hF rfl rfl ?_
  refine TL.nil ?_
  refine TQ.then_n ?_
  refine T.seq ?_
  refine T.seq ?_
  refine T.region ?_
  refine TL.move hF rfl rfl ?_
  refine TL.call hF (farL_fn hr hl hbl) rfl rfl ?_
  rintro _ _ ⟨fb, rfl, rfl⟩
  have hb := Back.refl S w0
  refine TL.move hF rfl rfl ?_
  refine TL.gb (t := 25) rfl (fun g1_25 => ?_) (fun g1_25 => ?_)
  · refine TL.off hF rfl rfl rfl g1_25 rfl ?_
    refine TL.off hF rfl rfl rfl g1_25 rfl ?_
    refine TL.off hF rfl rfl rfl g1_25 rfl ?_
    refine TL.pickT hF rfl g1_25 rfl rfl ?_
    refine TL.nil ?_
    refine TQ.then_n ?_
    refine T.cond_t rfl rfl ?_
    refine T.seq ?_
    refine T.region ?_
    refine TL.call hF awake_fn rfl rfl ?_
    rintro _ _ rfl
    refine TL.assign hF rfl rfl ?_
    refine TL.nil ?_
    refine TQ.then_n ?_
    refine T.ret ?_
    refine TQ.then_r ?_
    exact TQ.retsF [6] _ hb rfl rfl rfl (fun _ => rfl)
  · refine TL.on rfl rfl rfl g1_25 ?_
    refine TL.move hF rfl rfl ?_
    refine TL.on rfl rfl rfl g1_25 ?_
    refine TL.len hF rfl rfl ?_
    refine TL.on rfl rfl rfl g1_25 ?_
    refine TL.bin hF rfl rfl rfl rfl ?_
    refine TL.pickF hF rfl g1_25 rfl rfl ?_
    refine TL.nil ?_
    refine TQ.then_n ?_
    first | refine T.cond_d rfl (fun ht29 => ?_) (fun ht29 => ?_) | refine T.cond _ rfl (fun ht29 => ?_) (fun ht29 => ?_)
    · refine T.seq ?_
      refine T.region ?_
      refine TL.call hF awake_fn rfl rfl ?_
      rintro _ _ rfl
      refine TL.assign hF rfl rfl ?_
      refine TL.nil ?_
      refine TQ.then_n ?_
      refine T.ret ?_
      refine TQ.then_r ?_
      exact TQ.retsF [6] _ hb rfl rfl rfl (fun _ => rfl)
    · refine T.skip ?_
      refine TQ.then_n ?_
      refine T.seq ?_
      refine T.region ?_
      refine TL.move hF rfl rfl ?_
      refine TL.move hF rfl rfl ?_
      refine TL.call hF (Blocks_prog rels hr hl hbl) rfl rfl ?_
      rintro _ _ ⟨a1, c1, s1, rfl, rfl, j1⟩
      refine TL.freeze s1 rfl (fun S1 w1 hz1 => ?_)
      have hb := hb.frz hz1
      have hr := hr.old hz1
      have hfr := hfr.old hz1
      have h1 := j1.frz hz1
      refine TL.move hF rfl rfl ?_
      refine TL.extract hF rfl rfl rfl ?_
      refine TL.extract hF rfl rfl rfl ?_
      refine TL.assign hF rfl rfl ?_
      refine TL.assign hF rfl rfl ?_
      refine TL.nil ?_
      refine TQ.then_n ?_
      refine T.seq ?_
      refine T.region ?_
      refine TL.move hF rfl rfl ?_
      refine TL.move hF rfl rfl ?_
      refine TL.call hF (Blocks_fn rels hr hl) rfl rfl ?_
      rintro _ _ ⟨a2, c2, s2, rfl, rfl, j2⟩
      refine TL.freeze s2 rfl (fun S2 w2 hz2 => ?_)
      have hb := hb.frz hz2
      have hr := hr.old hz2
      have hfr := hfr.old hz2
      have h2 := j2.frz hz2
      have h1 := h1.old hz2
      refine TL.move hF rfl rfl ?_
      refine TL.extract hF rfl rfl rfl ?_
      refine TL.extract hF rfl rfl rfl ?_
      refine TL.assign hF rfl rfl ?_
      refine TL.assign hF rfl rfl ?_
      refine TL.nil ?_
      refine TQ.then_n ?_
      refine T.seq ?_
      refine T.region ?_
      refine TL.move hF rfl rfl ?_
      refine TL.move hF rfl rfl ?_
      refine TL.call hF (Reason_prog rels hr hl hbl) rfl rfl ?_
      rintro _ _ ⟨a3, c3, s3, rfl, rfl, j3⟩
      refine TL.freeze s3 rfl (fun S3 w3 hz3 => ?_)
      have hb := hb.frz hz3
      have hr := hr.old hz3
      have hfr := hfr.old hz3
      have h3 := j3.frz hz3
      have h1 := h1.old hz3
      have h2 := h2.old hz3
      refine TL.move hF rfl rfl ?_
      refine TL.extract hF rfl rfl rfl ?_
      refine TL.extract hF rfl rfl rfl ?_
      refine TL.assign hF rfl rfl ?_
      refine TL.assign hF rfl rfl ?_
      refine TL.nil ?_
      refine TQ.then_n ?_
      refine T.seq ?_
      refine T.region ?_
      refine TL.move hF rfl rfl ?_
      refine TL.move hF rfl rfl ?_
      refine TL.call hF (Reason_fn rels hr hl) rfl rfl ?_
      rintro _ _ ⟨a4, c4, s4, rfl, rfl, j4⟩
      refine TL.freeze s4 rfl (fun S4 w4 hz4 => ?_)
      have hb := hb.frz hz4
      have hr := hr.old hz4
      have hfr := hfr.old hz4
      have h4 := j4.frz hz4
      have h1 := h1.old hz4
      have h2 := h2.old hz4
      have h3 := h3.old hz4
      refine TL.move hF rfl rfl ?_
      refine TL.extract hF rfl rfl rfl ?_
      refine TL.extract hF rfl rfl rfl ?_
      refine TL.assign hF rfl rfl ?_
      refine TL.assign hF rfl rfl ?_
      refine TL.nil ?_
      refine TQ.then_n ?_
      refine T.seq ?_
      refine T.region ?_
      refine TL.move hF rfl rfl ?_
      refine TL.move hF rfl rfl ?_
      refine TL.call hF (Levels_prog rels hr hl hbl) rfl rfl ?_
      rintro _ _ ⟨a5, c5, s5, rfl, rfl, j5⟩
      refine TL.freeze s5 rfl (fun S5 w5 hz5 => ?_)
      have hb := hb.frz hz5
      have hr := hr.old hz5
      have hfr := hfr.old hz5
      have h5 := j5.frz hz5
      have h1 := h1.old hz5
      have h2 := h2.old hz5
      have h3 := h3.old hz5
      have h4 := h4.old hz5
      refine TL.move hF rfl rfl ?_
      refine TL.extract hF rfl rfl rfl ?_
      refine TL.extract hF rfl rfl rfl ?_
      refine TL.assign hF rfl rfl ?_
      refine TL.assign hF rfl rfl ?_
      refine TL.nil ?_
      refine TQ.then_n ?_
      refine T.seq ?_
      refine T.region ?_
      refine TL.move hF rfl rfl ?_
      refine TL.move hF rfl rfl ?_
      refine TL.call hF (Levels_fn rels hr hl) rfl rfl ?_
      rintro _ _ ⟨a6, c6, s6, rfl, rfl, j6⟩
      refine TL.freeze s6 rfl (fun S6 w6 hz6 => ?_)
      have hb := hb.frz hz6
      have hr := hr.old hz6
      have hfr := hfr.old hz6
      have h6 := j6.frz hz6
      have h1 := h1.old hz6
      have h2 := h2.old hz6
      have h3 := h3.old hz6
      have h4 := h4.old hz6
      have h5 := h5.old hz6
      refine TL.move hF rfl rfl ?_
      refine TL.extract hF rfl rfl rfl ?_
      refine TL.extract hF rfl rfl rfl ?_
      refine TL.assign hF rfl rfl ?_
      refine TL.assign hF rfl rfl ?_
      refine TL.nil ?_
      refine TQ.then_n ?_
      refine T.seq ?_
      refine T.region ?_
      refine TL.move hF rfl rfl ?_
      refine TL.move hF rfl rfl ?_
      refine TL.move hF rfl rfl ?_
      refine TL.call hF (Reach_prog rels hr hl hbl hfr (by have h : ¬ (100 : Int) < (fr.length : Int) := ht29; omega)) rfl rfl ?_
      rintro _ _ ⟨a7, c7, s7, rfl, rfl, j7⟩
      refine TL.freeze s7 rfl (fun S7 w7 hz7 => ?_)
      have hb := hb.frz hz7
      have hr := hr.old hz7
      have hfr := hfr.old hz7
      have h7 := j7.frz hz7
      have h1 := h1.old hz7
      have h2 := h2.old hz7
      have h3 := h3.old hz7
      have h4 := h4.old hz7
      have h5 := h5.old hz7
      have h6 := h6.old hz7
      refine TL.move hF rfl rfl ?_
      refine TL.extract hF rfl rfl rfl ?_
      refine TL.extract hF rfl rfl rfl ?_
      refine TL.assign hF rfl rfl ?_
      refine TL.assign hF rfl rfl ?_
      refine TL.nil ?_
      refine TQ.then_n ?_
      refine T.seq ?_
      refine T.region ?_
      refine TL.move hF rfl rfl ?_
      refine TL.move hF rfl rfl ?_
      refine TL.move hF rfl rfl ?_
      refine TL.call hF (Reach_fn rels hr hl hfr (by have h : ¬ (100 : Int) < (fr.length : Int) := ht29; omega)) rfl rfl ?_
      rintro _ _ ⟨a8, c8, s8, rfl, rfl, j8⟩
      refine TL.freeze s8 rfl (fun S8 w8 hz8 => ?_)
      have hb := hb.frz hz8
      have hr := hr.old hz8
      have hfr := hfr.old hz8
      have h8 := j8.frz hz8
      have h1 := h1.old hz8
      have h2 := h2.old hz8
      have h3 := h3.old hz8
      have h4 := h4.old hz8
      have h5 := h5.old hz8
      have h6 := h6.old hz8
      have h7 := h7.old hz8
      refine TL.move hF rfl rfl ?_
      refine TL.extract hF rfl rfl rfl ?_
      refine TL.extract hF rfl rfl rfl ?_
      refine TL.assign hF rfl rfl ?_
      refine TL.assign hF rfl rfl ?_
      refine TL.nil ?_
      refine TQ.then_n ?_
      refine T.seq ?_
      refine T.region ?_
      refine TL.move hF rfl rfl ?_
      refine TL.move hF rfl rfl ?_
      refine TL.callV hF (EqualO_fn h1 h2 (blocksS_len rels rs).1 (blocksS_len rels rs).2) rfl rfl ?_
      refine TL.move hF rfl rfl ?_
      refine TL.on rfl rfl rfl rfl ?_
      refine TL.move hF rfl rfl ?_
      refine TL.on rfl rfl rfl rfl ?_
      refine TL.move hF rfl rfl ?_
      refine TL.on rfl rfl rfl rfl ?_
      refine TL.bin hF rfl rfl rfl rfl ?_
      refine TL.pickT hF rfl rfl rfl rfl ?_
      refine TL.move hF rfl rfl ?_
      refine TL.on rfl rfl rfl (decide_eq_true rfl) ?_
      refine TL.move hF rfl rfl ?_
      refine TL.on rfl rfl rfl (decide_eq_true rfl) ?_
      refine TL.move hF rfl rfl ?_
      refine TL.on rfl rfl rfl (decide_eq_true rfl) ?_
      refine TL.callV hF (EqualN_fn h3 h4 (reasonS_len rels rs)) rfl rfl ?_
      refine TL.pickT hF rfl (decide_eq_true rfl) rfl rfl ?_
      refine TL.move hF rfl rfl ?_
      refine TL.on rfl rfl rfl rfl ?_
      refine TL.move hF rfl rfl ?_
      refine TL.on rfl rfl rfl rfl ?_
      refine TL.move hF rfl rfl ?_
      refine TL.on rfl rfl rfl rfl ?_
      refine TL.bin hF rfl rfl rfl rfl ?_
      refine TL.pickT hF rfl rfl rfl rfl ?_
      refine TL.move hF rfl rfl ?_
      refine TL.on rfl rfl rfl (decide_eq_true rfl) ?_
      refine TL.move hF rfl rfl ?_
      refine TL.on rfl rfl rfl (decide_eq_true rfl) ?_
      refine TL.move hF rfl rfl ?_
      refine TL.on rfl rfl rfl (decide_eq_true rfl) ?_
      refine TL.callV hF (EqualI_fn h5 h6 (levelsS_len rels rs)) rfl rfl ?_
      refine TL.pickT hF rfl (decide_eq_true rfl) rfl rfl ?_
      refine TL.move hF rfl rfl ?_
      refine TL.on rfl rfl rfl rfl ?_
      refine TL.move hF rfl rfl ?_
      refine TL.on rfl rfl rfl rfl ?_
      refine TL.move hF rfl rfl ?_
      refine TL.on rfl rfl rfl rfl ?_
      refine TL.bin hF rfl rfl rfl rfl ?_
      refine TL.pickT hF rfl rfl rfl rfl ?_
      refine TL.move hF rfl rfl ?_
      refine TL.on rfl rfl rfl (decide_eq_true rfl) ?_
      refine TL.move hF rfl rfl ?_
      refine TL.on rfl rfl rfl (decide_eq_true rfl) ?_
      refine TL.move hF rfl rfl ?_
      refine TL.on rfl rfl rfl (decide_eq_true rfl) ?_
      refine TL.callV hF (EqualN_fn h7 h8 (reachS_len rels rs fr)) rfl rfl ?_
      refine TL.pickT hF rfl (decide_eq_true rfl) rfl rfl ?_
      refine TL.move hF rfl rfl ?_
      refine TL.on rfl rfl rfl rfl ?_
      refine TL.move hF rfl rfl ?_
      refine TL.on rfl rfl rfl rfl ?_
      refine TL.move hF rfl rfl ?_
      refine TL.on rfl rfl rfl rfl ?_
      refine TL.bin hF rfl rfl rfl rfl ?_
      refine TL.pickT hF rfl rfl rfl rfl ?_
      refine TL.move hF rfl rfl ?_
      refine TL.on rfl rfl rfl (decide_eq_true rfl) ?_
      refine TL.call hF awake_fn rfl rfl ?_
      rintro _ _ rfl
      refine TL.pickT hF rfl (decide_eq_true rfl) rfl rfl ?_
      refine TL.assign hF rfl rfl ?_
      refine TL.nil ?_
      refine TQ.then_n ?_
      refine T.ret ?_
      exact TQ.retsF [6] _ hb rfl rfl rfl (fun _ => rfl)
end Go.Proofs.Ytdehpaikapbckaa
/- Loose rules that numbers make. -/
namespace Go.Proofs.Ytdehpaikapbckaa
open Go.Sl
variable {S : Nat → Prop} {w0 : World} {η : Heap}
def looseB (R n : Nat) : List AtomD := [⟨((n / 2 ^ 4 % R : Nat) : Int), decide ((((n / 2 ^ 8) &&& 3 : Nat) : Int) = 0), none, 0, 0⟩] ++ if (((n / 2 ^ 10) &&& 1 : Nat) : Int) = 1 then [mkA ((n / 2 ^ 11 % R : Nat) : Int)] else []
def keyR (r : RuleD) : Int × List AtomD := (r.head, r.body)
def looseK (R n : Nat) : Int × List AtomD := (((n % R : Nat) : Int), looseB R n)
abbrev u16s (l : List Nat) : List Value := l.map fun (n : Nat) => .int .u16 (n : Int)
theorem shr_lt {n k : Nat} (h : n < 65536) : n / 2 ^ k < 65536 := Nat.lt_of_le_of_lt (Nat.div_le_self _ _) h
theorem wrap16 {n k : Nat} (h : n < 65536) : IntKind.i64.wrap ((n / 2 ^ k : Nat) : Int) = ((n / 2 ^ k : Nat) : Int) := wrap_i64 (Int.le_trans (by decide) (Int.natCast_nonneg _)) (by have := shr_lt (k := k) h; omega)
theorem wrap16' {n : Nat} (h : n < 65536) : IntKind.i64.wrap (n : Int) = (n : Int) := wrap_i64 (by omega) (by omega)
/-- Rules that are made: each one's body in a block of its own. -/
def Bodies (gs : List Seg) (rs : List RuleD) : Prop := ∀ r ∈ rs, ∃ g ∈ gs, OSl 55 3 (.slice r.ba r.body.length r.bc) r.body.length (r.body.flatMap AtomD.cells) g

set_option maxHeartbeats 2000000 in
theorem loose_fn {fa : Option Addr} {xs : List Nat} {fc R : Nat} (hx : Row S w0 [] fa (u16s xs)) (hl : xs.length ≤ 60) (hfc : xs.length ≤ fc) (hxs : ∀ n ∈ xs, n < 65536) (hR : 0 < R) (_hR2 : R ≤ 48) :
    Rt Try.prog 20 [.int .i64 (R : Int), .slice fa xs.length fc].toArray S w0 η (fun v η' => ∃ a cap segs rs, v = .slice a rs.length cap ∧ η' = segs ++ η ∧ Rules S w0 segs a rs ∧ rs.map keyR = xs.map (looseK R)) := by
  have hF := open_wide
  refine Rt.of (fn := Try.f20) Try.func20 rfl rfl ?_
  refine T.seq ?_
  refine T.region ?_
  refine TL.assign hF rfl rfl ?_
  refine TL.nil ?_
  refine TQ.then_n ?_
  refine T.seq ?_
  refine T.region ?_
  refine TL.assign hF rfl rfl ?_
  refine TL.nil ?_
  refine TQ.then_n ?_
  refine T.seq ?_
  refine T.seq ?_
  refine T.region ?_
  refine TL.move hF rfl rfl ?_
  refine TL.move hF rfl rfl ?_
  refine TL.len hF rfl rfl ?_
  refine TL.min2 hF rfl rfl rfl ?_
  rw [show min (xs.length : Int) 60 = (xs.length : Int) by omega]
  refine TL.slice hF (i := 0) (j := xs.length) rfl rfl rfl (by omega) (by omega) rfl ?_
  rw [cut0']
  refine TL.len hF rfl rfl ?_
  refine TL.move hF rfl rfl ?_
  refine TL.nil ?_
  refine TQ.then_n ?_
  refine T.block ?_
  refine T.hnil ?_
  refine T.loop (ι := Nat × List RuleD × Option Addr × Nat × Seg × List Seg) (fun i => i.1 ≤ xs.length ∧ i.2.1.map keyR = (xs.take i.1).map (looseK R) ∧ OSl 53 4 (.slice i.2.2.1 i.2.1.length i.2.2.2.1) i.2.1.length (i.2.1.flatMap RuleD.cells) i.2.2.2.2.1 ∧ Bodies i.2.2.2.2.2 i.2.1) (fun i => [(0, .int .i64 (R : Int)), (13, .slice fa xs.length fc), (14, .int .i64 (xs.length : Int)), (5, .slice i.2.2.1 i.2.1.length i.2.2.2.1), (15, .int .i64 (i.1 : Int))]) (fun i => i.2.2.2.2.1 :: (i.2.2.2.2.2 ++ η)) (fun i => xs.length - i.1) (0, [], none, 0, [], []) ⟨Nat.zero_le _, rfl, OSl.nil 53 4, fun r hr => by simp at hr⟩ ⟨rfl, rfl, rfl, rfl, rfl, trivial⟩ rfl ?_
  rintro ⟨k, rs, oa, oc, og, gs⟩ ⟨hk, hkey, ho, hbod⟩
  simp only at hk hkey ho hbod
  refine T.seq ?_
  refine T.region ?_
  refine TL.bin hF rfl rfl rfl rfl ?_
  refine TL.nil ?_
  refine TQ.then_n ?_
  refine T.seq ?_
  first | refine T.cond_d rfl (fun ht16 => ?_) (fun ht16 => ?_) | refine T.cond _ rfl (fun ht16 => ?_) (fun ht16 => ?_)
  · refine T.skip ?_
    refine TQ.then_n ?_
    refine T.seq ?_
    refine T.block ?_
    refine T.seq ?_
    refine T.region ?_
    have hkl : k < xs.length := by have h : (k : Int) < xs.length := ht16; omega
    have hrl : rs.length = k := by have h := congrArg List.length hkey; simp at h; omega
    obtain ⟨n, hn⟩ : ∃ n, n = xs[k] := ⟨_, rfl⟩
    have hn16 : n < 65536 := by rw [hn]; exact hxs _ (List.getElem_mem _)
    refine TL.indexAddr hF rfl rfl (hx.ad (by simp; omega)) (by omega) (by omega) rfl ?_
    refine TL.load hF rfl (At.up (by rw [Nat.mul_one]; exact hx.cell k (.int .u16 (n : Int)) (by simp [hkl, hn])) (by simp)) rfl ?_
    refine TL.assign hF rfl rfl ?_
    refine TL.nil ?_
    refine TQ.then_n ?_
    refine T.cut (ι := Nat × Option Addr × Nat × Seg) (fun i => OSl 55 3 (.slice i.2.1 1 i.2.2.1) 1 (mkA ((n / 2 ^ 4 % R : Nat) : Int)).cells i.2.2.2) (fun i => [(0, .int .i64 (R : Int)), (13, .slice fa xs.length fc), (14, .int .i64 (xs.length : Int)), (5, .slice oa rs.length oc), (15, .int .i64 (k : Int)), (7, .int .u16 (n : Int)), (8, ptr i.1)]) (fun i => [(i.1, .cells #[.int .i64 ((n % R : Nat) : Int), .slice none 0 0, .slice i.2.1 1 i.2.2.1, .slice none 0 0] 53 (0, 0))] :: i.2.2.2 :: og :: (gs ++ η)) ?_ ?_
    · refine T.drawH 12 mixed ?_
      refine DH.pure (i := 0) [(7, _, none)] rfl rfl rfl rfl ⟨⟨rfl, by kernel_rfl⟩, trivial⟩ (fun _ ext => TL.move hF rfl rfl TL.fin) ?_
      refine DH.pure (i := 1) [(19, _, some 0)] rfl rfl rfl rfl ⟨⟨rfl, rfl, rfl⟩, trivial⟩ (fun _ ext => TL.convK hF rfl (wrap16' hn16) rfl TL.fin) ?_
      refine DH.pure (i := 2) [(0, _, none)] rfl rfl rfl rfl ⟨⟨rfl, by kernel_rfl⟩, trivial⟩ (fun _ ext => TL.move hF rfl rfl TL.fin) ?_
      refine DH.pure (i := 3) [(20, _, some 1), (21, _, some 2)] rfl rfl rfl rfl ⟨⟨rfl, rfl, rfl⟩, ⟨rfl, rfl, rfl⟩, trivial⟩ (fun _ ext => TL.remN hF rfl rfl hR rfl TL.fin) ?_
      refine DH.pure (i := 4) [(7, _, none)] rfl rfl rfl rfl ⟨⟨rfl, by kernel_rfl⟩, trivial⟩ (fun _ ext => TL.move hF rfl rfl TL.fin) ?_
      refine DH.pure (i := 5) [(23, _, some 4)] rfl rfl rfl rfl ⟨⟨rfl, rfl, rfl⟩, trivial⟩ (fun _ ext => TL.shrN (a := n) (s := 4) hF rfl rfl (by decide) rfl TL.fin) ?_
      refine DH.pure (i := 6) [(24, _, some 5)] rfl rfl rfl rfl ⟨⟨rfl, rfl, rfl⟩, trivial⟩ (fun _ ext => TL.convK hF rfl (wrap16 hn16) rfl TL.fin) ?_
      refine DH.pure (i := 7) [(0, _, none)] rfl rfl rfl rfl ⟨⟨rfl, by kernel_rfl⟩, trivial⟩ (fun _ ext => TL.move hF rfl rfl TL.fin) ?_
      refine DH.pure (i := 8) [(25, _, some 6), (26, _, some 7)] rfl rfl rfl rfl ⟨⟨rfl, rfl, rfl⟩, ⟨rfl, rfl, rfl⟩, trivial⟩ (fun _ ext => TL.remN hF rfl rfl hR rfl TL.fin) ?_
      refine DH.heavy2 (h1 := 9) (h2 := 11) (by kernel_rfl) (by kernel_rfl) (by kernel_rfl) (by kernel_rfl) ⟨_, _, [(27, _, some 8)], rfl, rfl, rfl, rfl, ⟨⟨rfl, rfl, rfl⟩, trivial⟩, by kernel_rfl, fun ext => ?_⟩ ⟨_, _, [], rfl, rfl, rfl, rfl, trivial, by kernel_rfl, fun ext => ?_⟩
      · refine TL.buildSlice hF rfl (cs := #[.int .i64 ((n / 2 ^ 4 % R : Nat) : Int)]) (e := 3) (fun w => by kernel_rfl) rfl (fun b28 => ?_)
        refine TL.finD ?_
        refine DH.heavy2 (h1 := 10) (h2 := 11) (by kernel_rfl) (by kernel_rfl) (by kernel_rfl) (by kernel_rfl) ⟨_, _, [(22, _, some 3), (28, _, some 9)], rfl, rfl, rfl, rfl, ⟨⟨rfl, rfl, rfl⟩, ⟨rfl, rfl, rfl⟩, trivial⟩, by kernel_rfl, fun ext => ?_⟩ ⟨_, _, [], rfl, rfl, rfl, rfl, trivial, by kernel_rfl, fun ext => ?_⟩
        · refine TL.call hF (usesL_fn (l := [((n / 2 ^ 4 % R : Nat) : Int)]) ((n % R : Nat) : Int) (-1) (row_own (cs := ints [((n / 2 ^ 4 % R : Nat) : Int)]) (e := 3) (by simp [ints])) (by simp)) rfl rfl ?_
          rintro _ _ ⟨ba, bc, bg, rfl, rfl, hbo⟩
          refine TL.finD ?_
          refine DH.heavy 11 [] (by kernel_rfl) (by kernel_rfl) (by kernel_rfl) (by kernel_rfl) rfl rfl rfl rfl trivial (by kernel_rfl) (fun ext => ?_)
          refine TL.alloc hF rfl (fun b8 => ?_)
          refine TL.finD ?_
          refine DH.done [(8, _), (29, _), (28, _), (27, _), (26, _), (25, _), (24, _), (23, _), (22, _), (21, _), (20, _), (19, _)] [_] (by kernel_rfl) (by kernel_rfl) (by kernel_rfl) (by kernel_rfl) rfl rfl ?_
          refine TL.storeAI hF (mkR ((n % R : Nat) : Int) (usesB (-1) [((n / 2 ^ 4 % R : Nat) : Int)]) ba bc).cells 0 rfl rfl rfl rfl (by simp [mkR, RuleD.cells, Value.oneCell']) (by simp [Value.cells, cells_len]) ?_
          refine TL.nil ?_
          refine TQ.pick [0, 1, 3] [_, _, _, _] rfl rfl rfl ?_
          exact TQ.cut (b8, ba, bc, bg) hbo ⟨rfl, rfl, rfl, rfl, rfl, rfl, rfl, trivial⟩ rfl
        · refine TL.alloc hF rfl (fun b8 => ?_)
          refine TL.finD ?_
          refine DH.heavy 10 [(22, _, some 3), (28, _, some 9)] (by kernel_rfl) (by kernel_rfl) (by kernel_rfl) (by kernel_rfl) rfl rfl rfl rfl ⟨⟨rfl, rfl, rfl⟩, ⟨rfl, rfl, rfl⟩, trivial⟩ (by kernel_rfl) (fun ext => ?_)
          refine TL.call hF (usesL_fn (l := [((n / 2 ^ 4 % R : Nat) : Int)]) ((n % R : Nat) : Int) (-1) (row_own (cs := ints [((n / 2 ^ 4 % R : Nat) : Int)]) (e := 3) (by simp [ints])) (by simp)) rfl rfl ?_
          rintro _ _ ⟨ba, bc, bg, rfl, rfl, hbo⟩
          refine TL.finD ?_
          refine DH.done [(29, _), (8, _), (28, _), (27, _), (26, _), (25, _), (24, _), (23, _), (22, _), (21, _), (20, _), (19, _)] [_] (by kernel_rfl) (by kernel_rfl) (by kernel_rfl) (by kernel_rfl) rfl rfl ?_
          refine TL.storeAI hF (mkR ((n % R : Nat) : Int) (usesB (-1) [((n / 2 ^ 4 % R : Nat) : Int)]) ba bc).cells 1 rfl rfl rfl rfl (by simp [mkR, RuleD.cells, Value.oneCell']) (by simp [Value.cells, cells_len]) ?_
          refine TL.nil ?_
          refine TQ.pick [1, 0, 3] [_, _, _, _] rfl rfl rfl ?_
          exact TQ.cut (b8, ba, bc, bg) hbo ⟨rfl, rfl, rfl, rfl, rfl, rfl, rfl, trivial⟩ rfl
      · refine TL.alloc hF rfl (fun b8 => ?_)
        refine TL.finD ?_
        refine DH.heavy 9 [(27, _, some 8)] (by kernel_rfl) (by kernel_rfl) (by kernel_rfl) (by kernel_rfl) rfl rfl rfl rfl ⟨⟨rfl, rfl, rfl⟩, trivial⟩ (by kernel_rfl) (fun ext => ?_)
        refine TL.buildSlice hF rfl (cs := #[.int .i64 ((n / 2 ^ 4 % R : Nat) : Int)]) (e := 3) (fun w => by kernel_rfl) rfl (fun b28 => ?_)
        refine TL.finD ?_
        refine DH.heavy 10 [(22, _, some 3), (28, _, some 9)] (by kernel_rfl) (by kernel_rfl) (by kernel_rfl) (by kernel_rfl) rfl rfl rfl rfl ⟨⟨rfl, rfl, rfl⟩, ⟨rfl, rfl, rfl⟩, trivial⟩ (by kernel_rfl) (fun ext => ?_)
        refine TL.call hF (usesL_fn (l := [((n / 2 ^ 4 % R : Nat) : Int)]) ((n % R : Nat) : Int) (-1) (row_own (cs := ints [((n / 2 ^ 4 % R : Nat) : Int)]) (e := 3) (by simp [ints])) (by simp)) rfl rfl ?_
        rintro _ _ ⟨ba, bc, bg, rfl, rfl, hbo⟩
        refine TL.finD ?_
        refine DH.done [(29, _), (28, _), (8, _), (27, _), (26, _), (25, _), (24, _), (23, _), (22, _), (21, _), (20, _), (19, _)] [_] (by kernel_rfl) (by kernel_rfl) (by kernel_rfl) (by kernel_rfl) rfl rfl ?_
        refine TL.storeAI hF (mkR ((n % R : Nat) : Int) (usesB (-1) [((n / 2 ^ 4 % R : Nat) : Int)]) ba bc).cells 2 rfl rfl rfl rfl (by simp [mkR, RuleD.cells, Value.oneCell']) (by simp [Value.cells, cells_len]) ?_
        refine TL.nil ?_
        refine TQ.pick [2, 0, 3] [_, _, _, _] rfl rfl rfl ?_
        exact TQ.cut (b8, ba, bc, bg) hbo ⟨rfl, rfl, rfl, rfl, rfl, rfl, rfl, trivial⟩ rfl
    · rintro ⟨b8, ba, bc, bg⟩ hbo
      simp only at hbo
      obtain ⟨g, cap, cur, hv, rfl, hz⟩ := hbo.ex (by decide)
      simp only [Value.slice.injEq, true_and] at hv
      obtain ⟨rfl, rfl⟩ := hv
      have hput := hbo.put (j := 1) (u := .bool (decide ((((n / 2 ^ 8) &&& 3 : Nat) : Int) = 0)))
      refine T.seq ?_
      refine T.region ?_
      refine TL.fieldAddr hF rfl rfl ?_
      refine TL.fieldAddr hF rfl rfl ?_
      refine TL.load hF rfl (own_list (i := 0) (cs := [.int .i64 ((n % R : Nat) : Int), .slice none 0 0, .slice (some ⟨g, 0, none⟩) 1 bc, .slice none 0 0]) rfl 2 _ rfl) rfl ?_
      refine TL.move hF rfl rfl ?_
      refine TL.shrN (a := n) (s := 8) hF rfl rfl (by decide) rfl ?_
      refine TL.andN (a := n / 2 ^ 8) (m := 3) hF rfl rfl rfl (shr_lt hn16) (by decide) rfl ?_
      refine TL.bin hF rfl rfl rfl rfl ?_
      refine TL.indexAddr hF rfl rfl ⟨_, rfl, rfl⟩ (by omega) (by omega) rfl ?_
      refine TL.fieldAddr hF rfl rfl ?_
      refine TL.storeI hF 1 rfl rfl rfl rfl (by simp; omega) ?_
      refine TL.nil ?_
      refine TQ.then_n ?_
      refine T.cut (ι := Option Addr × Nat × Seg) (fun i => OSl 55 3 (.slice i.1 (looseB R n).length i.2.1) (looseB R n).length ((looseB R n).flatMap AtomD.cells) i.2.2) (fun i => [(0, .int .i64 (R : Int)), (13, .slice fa xs.length fc), (14, .int .i64 (xs.length : Int)), (5, .slice oa rs.length oc), (15, .int .i64 (k : Int)), (8, ptr b8)]) (fun i => [(b8, .cells #[.int .i64 ((n % R : Nat) : Int), .slice none 0 0, .slice i.1 (looseB R n).length i.2.1, .slice none 0 0] 53 (0, 0))] :: i.2.2 :: og :: (gs ++ η)) ?_ ?_
      · refine T.seq ?_
        refine T.region ?_
        refine TL.move hF rfl rfl ?_
        refine TL.shrN (a := n) (s := 10) hF rfl rfl (by decide) rfl ?_
        refine TL.andN (a := n / 2 ^ 10) (m := 1) hF rfl rfl rfl (shr_lt hn16) (by decide) rfl ?_
        refine TL.bin hF rfl rfl rfl rfl ?_
        refine TL.nil ?_
        refine TQ.then_n ?_
        first | refine T.cond_d rfl (fun ht42 => ?_) (fun ht42 => ?_) | refine T.cond _ rfl (fun ht42 => ?_) (fun ht42 => ?_)
        · refine T.drawH 10 mixed ?_
          refine DH.pure (i := 0) [(8, _, none)] rfl rfl rfl rfl ⟨⟨rfl, by kernel_rfl⟩, trivial⟩ (fun _ ext => TL.fieldAddr hF rfl rfl TL.fin) ?_
          refine DH.pure (i := 1) [(43, _, some 0)] rfl rfl rfl rfl ⟨⟨rfl, rfl, rfl⟩, trivial⟩ (fun _ ext => TL.fieldAddr hF rfl rfl TL.fin) ?_
          refine DH.pure (i := 3) [(7, _, none)] rfl rfl rfl rfl ⟨⟨rfl, by kernel_rfl⟩, trivial⟩ (fun _ ext => TL.move hF rfl rfl TL.fin) ?_
          refine DH.pure (i := 4) [(46, _, some 3)] rfl rfl rfl rfl ⟨⟨rfl, rfl, rfl⟩, trivial⟩ (fun _ ext => TL.shrN (a := n) (s := 11) hF rfl rfl (by decide) rfl TL.fin) ?_
          refine DH.pure (i := 5) [(47, _, some 4)] rfl rfl rfl rfl ⟨⟨rfl, rfl, rfl⟩, trivial⟩ (fun _ ext => TL.convK hF rfl (wrap16 hn16) rfl TL.fin) ?_
          refine DH.pure (i := 6) [(0, _, none)] rfl rfl rfl rfl ⟨⟨rfl, by kernel_rfl⟩, trivial⟩ (fun _ ext => TL.move hF rfl rfl TL.fin) ?_
          refine DH.pure (i := 7) [(48, _, some 5), (49, _, some 6)] rfl rfl rfl rfl ⟨⟨rfl, rfl, rfl⟩, ⟨rfl, rfl, rfl⟩, trivial⟩ (fun _ ext => TL.remN hF rfl rfl hR rfl TL.fin) ?_
          refine DH.pure (i := 8) [(50, _, some 7)] rfl rfl rfl rfl ⟨⟨rfl, rfl, rfl⟩, trivial⟩ (fun _ ext => TL.build hF rfl (r := .agg #[.int .i64 ((n / 2 ^ 11 % R : Nat) : Int), .bool false, .slice none 0 0]) (fun w => by kernel_rfl) rfl TL.fin) ?_
          refine DH.heavy2 (h1 := 2) (h2 := 9) (by kernel_rfl) (by kernel_rfl) (by kernel_rfl) (by kernel_rfl) ⟨_, _, [(44, _, some 1)], rfl, rfl, rfl, rfl, ⟨⟨rfl, rfl, rfl⟩, trivial⟩, by kernel_rfl, fun ext => ?_⟩ ⟨_, _, [(51, _, some 8)], rfl, rfl, rfl, rfl, ⟨⟨rfl, rfl, rfl⟩, trivial⟩, by kernel_rfl, fun ext => ?_⟩
          · refine TL.load hF rfl (own_mem (cs := #[.int .i64 ((n % R : Nat) : Int), .slice none 0 0, .slice (some ⟨g, 0, none⟩) 1 bc, .slice none 0 0]) (e := 53) (fz := (0, 0)) (by simp) rfl) rfl ?_
            refine TL.finD ?_
            refine DH.heavy 9 [(51, _, some 8)] (by kernel_rfl) (by kernel_rfl) (by kernel_rfl) (by kernel_rfl) rfl rfl rfl rfl ⟨⟨rfl, rfl, rfl⟩, trivial⟩ (by kernel_rfl) (fun ext => ?_)
            refine TL.buildSlice hF rfl (cs := #[.int .i64 ((n / 2 ^ 11 % R : Nat) : Int), .bool false, .slice none 0 0]) (e := 55) (fun w => by kernel_rfl) rfl (fun b52 => ?_)
            refine TL.finD ?_
            refine DH.done [(52, _), (45, _), (51, _), (50, _), (49, _), (48, _), (47, _), (46, _), (44, _), (43, _)] [_, _, _, _] (by kernel_rfl) (by kernel_rfl) (by kernel_rfl) (by kernel_rfl) rfl rfl ?_
            refine TL.append hF 2 rfl rfl rfl hput (row_own (cs := (mkA ((n / 2 ^ 11 % R : Nat) : Int)).cells) (e := 55) List.mem_cons_self).src rfl rfl (by simp [Value.oneCell', AtomD.cells, mkA]) (by decide) (by decide) rfl (fun a' cap' seg' ho' => ?_)
            refine TL.fieldAddr hF rfl rfl ?_
            refine TL.fieldAddr hF rfl rfl ?_
            refine TL.storeI hF 1 rfl rfl rfl rfl (by simp) ?_
            refine TL.nil ?_
            have e : looseB R n = [⟨((n / 2 ^ 4 % R : Nat) : Int), decide ((((n / 2 ^ 8) &&& 3 : Nat) : Int) = 0), none, 0, 0⟩, mkA ((n / 2 ^ 11 % R : Nat) : Int)] := by unfold looseB; rw [if_pos ht42]; rfl
            refine TQ.pick [1, 2, 3] [_, _, _, _] rfl rfl rfl ?_
            refine TQ.cut (a', cap', seg') ?_ ⟨rfl, rfl, rfl, rfl, rfl, rfl, trivial⟩ (by rw [e]; rfl)
            simp only
            rw [e]
            exact ho'
          · refine TL.buildSlice hF rfl (cs := #[.int .i64 ((n / 2 ^ 11 % R : Nat) : Int), .bool false, .slice none 0 0]) (e := 55) (fun w => by kernel_rfl) rfl (fun b52 => ?_)
            refine TL.finD ?_
            refine DH.heavy 2 [(44, _, some 1)] (by kernel_rfl) (by kernel_rfl) (by kernel_rfl) (by kernel_rfl) rfl rfl rfl rfl ⟨⟨rfl, rfl, rfl⟩, trivial⟩ (by kernel_rfl) (fun ext => ?_)
            refine TL.load hF rfl (own_mem (cs := #[.int .i64 ((n % R : Nat) : Int), .slice none 0 0, .slice (some ⟨g, 0, none⟩) 1 bc, .slice none 0 0]) (e := 53) (fz := (0, 0)) (by simp) rfl) rfl ?_
            refine TL.finD ?_
            refine DH.done [(45, _), (52, _), (51, _), (50, _), (49, _), (48, _), (47, _), (46, _), (44, _), (43, _)] [_, _, _, _] (by kernel_rfl) (by kernel_rfl) (by kernel_rfl) (by kernel_rfl) rfl rfl ?_
            refine TL.append hF 2 rfl rfl rfl hput (row_own (cs := (mkA ((n / 2 ^ 11 % R : Nat) : Int)).cells) (e := 55) List.mem_cons_self).src rfl rfl (by simp [Value.oneCell', AtomD.cells, mkA]) (by decide) (by decide) rfl (fun a' cap' seg' ho' => ?_)
            refine TL.fieldAddr hF rfl rfl ?_
            refine TL.fieldAddr hF rfl rfl ?_
            refine TL.storeI hF 1 rfl rfl rfl rfl (by simp) ?_
            refine TL.nil ?_
            have e : looseB R n = [⟨((n / 2 ^ 4 % R : Nat) : Int), decide ((((n / 2 ^ 8) &&& 3 : Nat) : Int) = 0), none, 0, 0⟩, mkA ((n / 2 ^ 11 % R : Nat) : Int)] := by unfold looseB; rw [if_pos ht42]; rfl
            refine TQ.pick [1, 2, 3] [_, _, _, _] rfl rfl rfl ?_
            refine TQ.cut (a', cap', seg') ?_ ⟨rfl, rfl, rfl, rfl, rfl, rfl, trivial⟩ (by rw [e]; rfl)
            simp only
            rw [e]
            exact ho'
        · refine T.skip ?_
          have e : looseB R n = [⟨((n / 2 ^ 4 % R : Nat) : Int), decide ((((n / 2 ^ 8) &&& 3 : Nat) : Int) = 0), none, 0, 0⟩] := by unfold looseB; rw [if_neg ht42]; rfl
          refine TQ.cut (some ⟨g, 0, none⟩, bc, [(g, .cells (cur.setIfInBounds 1 (.bool (decide ((((n / 2 ^ 8) &&& 3 : Nat) : Int) = 0)))) 55 (0, 0))]) ?_ ⟨rfl, rfl, rfl, rfl, rfl, rfl, trivial⟩ (by rw [e]; rfl)
          simp only
          rw [e]
          exact hput
      · clear hbo hput
        rintro ⟨ba, bc, bg⟩ hbo
        simp only at hbo
        refine T.region ?_
        refine TL.move hF rfl rfl ?_
        refine TL.loadA hF (mkR ((n % R : Nat) : Int) (looseB R n) ba bc).cells rfl rfl (own_list (i := 0) rfl) rfl ?_
        refine TL.buildSlice hF rfl (cs := (mkR ((n % R : Nat) : Int) (looseB R n) ba bc).cells.toArray) (e := 53) (fun w => by kernel_rfl) rfl (fun b58 => ?_)
        refine TL.append hF 3 rfl rfl rfl ho (row_own (cs := (mkR ((n % R : Nat) : Int) (looseB R n) ba bc).cells) (e := 53) List.mem_cons_self).src rfl rfl (by simp [mkR, RuleD.cells, Value.oneCell']) (by omega) (by omega) rfl (fun a' cap' seg' ho' => ?_)
        refine TL.assign hF rfl rfl ?_
        refine TL.nil ?_
        refine TQ.block_n ?_
        refine TQ.then_n ?_
        refine T.region ?_
        refine TL.add hF rfl rfl (by omega) (by omega) rfl ?_
        refine TL.move hF rfl rfl ?_
        refine TL.nil ?_
        refine TQ.pick [3, 2] [_, _, _, _] rfl rfl rfl ?_
        have e1 : (rs ++ [mkR ((n % R : Nat) : Int) (looseB R n) ba bc]).length = rs.length + 1 := by simp
        refine TQ.round (k + 1, rs ++ [mkR ((n % R : Nat) : Int) (looseB R n) ba bc], a', cap', seg', bg :: gs) ⟨by simp only; omega, ?_, ?_, ?_⟩ (by simp only; omega) ⟨rfl, rfl, rfl, congrArg (fun z => some (Value.slice a' z cap')) e1.symm, rfl, trivial⟩ rfl
        · simp only
          rw [List.map_append, hkey, List.take_succ_eq_append_getElem hkl, List.map_append, ← hn]; rfl
        · simp only
          rw [e1, List.flatMap_append]
          simpa using ho'
        · intro r hr
          rcases List.mem_append.1 hr with h | h
          · obtain ⟨g2, h1, h2⟩ := hbod r h
            exact ⟨g2, List.mem_cons_of_mem _ h1, h2⟩
          · have : r = mkR ((n % R : Nat) : Int) (looseB R n) ba bc := by simpa using h
            subst this
            exact ⟨bg, List.mem_cons_self, hbo⟩
  · refine T.exit ?_
    refine TQ.then_x ?_
    refine TQ.then_x ?_
    refine TQ.block_x ?_
    refine TQ.then_n ?_
    refine T.seq ?_
    refine T.region ?_
    refine TL.move hF rfl rfl ?_
    refine TL.assign hF rfl rfl ?_
    refine TL.nil ?_
    refine TQ.then_n ?_
    refine T.ret ?_
    refine TQ.rets [4] _ rfl rfl rfl ?_
    have hkn : k = xs.length := by have h : ¬ (k : Int) < xs.length := ht16; omega
    subst hkn
    rw [List.take_length] at hkey
    refine ⟨oa, oc, og :: gs, rs, rfl, rfl, ⟨ho.row List.mem_cons_self, fun r hr => ?_⟩, hkey⟩
    obtain ⟨g2, h1, h2⟩ := hbod r hr
    exact h2.row (List.mem_cons_of_mem _ h1)
end Go.Proofs.Ytdehpaikapbckaa
/- Which relations use, and deny, which ones. -/
namespace Go.Proofs.Ytdehpaikapbckaa
open Go.Sl
variable {S : Nat → Prop} {w0 : World} {η : Heap}
abbrev Z2 : Nat → Nat → Bool := fun _ _ => false
abbrev UM (rs : List RuleD) (i j : Nat) (dn : Bool) (a b : Nat) : Bool := usesP rs i j a b dn
/-- All numbers of relations are in their range. -/
def RngR (R : Nat) (rs : List RuleD) : Prop := ∀ r ∈ rs, (∃ h : Nat, r.head = h ∧ h < R) ∧ ∀ x ∈ r.body, ∃ b : Nat, x.rel = b ∧ b < R
theorem two_rows {r1 r2 g1 g2 : Seg} {A B η : Heap} : List.Perm (g1 :: g2 :: ((A ++ [r1]) ++ ((B ++ [r2]) ++ η))) (r1 :: r2 :: g1 :: g2 :: (A ++ (B ++ η))) := by
  have h1 : List.Perm ((A ++ [r1]) ++ ((B ++ [r2]) ++ η)) (r1 :: r2 :: (A ++ (B ++ η))) := by
    rw [List.append_assoc, List.append_assoc]
    refine List.Perm.trans (List.perm_middle (l₁ := A) (a := r1)) (List.Perm.cons _ ?_)
    show List.Perm (A ++ (B ++ (r2 :: η))) (r2 :: (A ++ (B ++ η)))
    rw [← List.append_assoc, ← List.append_assoc]
    exact List.perm_middle
  refine List.Perm.trans ((h1.cons g2).cons g1) ?_
  exact (List.perm_append_comm (l₁ := [g1, g2]) (l₂ := [r1, r2])).append_right (A ++ (B ++ η))
theorem fronts {g1 g2 : Seg} {A B η : Heap} : List.Perm (A ++ (B ++ g1 :: g2 :: η)) (g1 :: g2 :: (A ++ (B ++ η))) := by
  rw [← List.append_assoc, ← List.append_assoc]
  exact (List.perm_middle).trans ((List.perm_middle).cons _)
theorem Mat.of {a : Option Addr} {n cap : Nat} {M : Nat → Nat → Bool} {bs : List Nat} {seg : Seg} (hn : bs.length = n) (ho : OSl 42 1 (.slice a n cap) n (bs.map (rowV n)) seg) (hs : seg ∈ η) (hm : ∀ s ∈ msegs n M bs, s ∈ η) : Mat S w0 η a n M := by
  refine ⟨fun i => (some ⟨bs.getD i 0, 0, none⟩, n), fun i hi => ?_⟩
  have hr : Row S w0 η a (bs.map (rowV n)) := ho.row hs
  refine ⟨hr.adi (i := i) (by simp; omega), ?_, row_own (e := 4) (hm _ (msegs_mem (by omega)))⟩
  rw [Nat.mul_one]
  exact hr.cell i _ (by simp [rowV, List.getD_eq_getElem?_getD, hn, hi])
theorem rowAt {a : Option Addr} {n cap i : Nat} {bs : List Nat} {seg : Seg} (hn : bs.length = n) (ho : OSl 42 1 (.slice a n cap) n (bs.map (rowV n)) seg) (hs : seg ∈ η) (hi : i < n) : At S w0 η (sAt a (i * 1)) (rowV n (bs.getD i 0)) := by
  rw [Nat.mul_one]
  exact (ho.row hs).cell i _ (by simp [List.getD_eq_getElem?_getD, hn, hi])
def updM (M : Nat → Nat → Bool) (a j : Nat) (v : Bool) (i k : Nat) : Bool := if i = a ∧ k = j then v else M i k
theorem msegs_upd {n h j j' : Nat} {M : Nat → Nat → Bool} {bs : List Nat} {r : Heap} {v : Bool} (hh : h < bs.length) (hj : j' = j) : (msegs n M bs ++ r).set h [(bs.getD h 0, Obj.cells ((rowC n (M h)).toArray.setIfInBounds j' (.bool v)) 4 (0, 0))] = msegs n (updM M h j v) bs ++ r := by
  subst hj
  exact msegs_set hh (fun i hi => by simp [updM]) (fun k i hk hne hi => by simp [updM, hne])
theorem put1 {n h j j' : Nat} {M : Nat → Nat → Bool} {bs : List Nat} {x y : Seg} {r : Heap} {v : Bool} (hh : h < bs.length) (hj : j' = j) : (x :: y :: (msegs n M bs ++ r)).set (2 + h) [(bs.getD h 0, Obj.cells ((rowC n (M h)).toArray.setIfInBounds j' (.bool v)) 4 (0, 0))] = x :: y :: (msegs n (updM M h j v) bs ++ r) := by
  rw [show 2 + h = h + 1 + 1 by omega, List.set_cons_succ, List.set_cons_succ, msegs_upd hh hj]
theorem get1 {n h : Nat} {M : Nat → Nat → Bool} {bs : List Nat} {x y : Seg} {r : Heap} (hh : h < bs.length) : (x :: y :: (msegs n M bs ++ r))[2 + h]? = some [(bs.getD h 0, Obj.cells (rowC n (M h)).toArray 4 (0, 0))] := by
  rw [show 2 + h = h + 1 + 1 by omega, List.getElem?_cons_succ, List.getElem?_cons_succ]; exact msegs_get hh
theorem put2 {n h j j' : Nat} {M : Nat → Nat → Bool} {bs : List Nat} {x y : Seg} {A r : Heap} {v : Bool} (hh : h < bs.length) (hj : j' = j) : (x :: y :: (A ++ (msegs n M bs ++ r))).set (2 + (A.length + h)) [(bs.getD h 0, Obj.cells ((rowC n (M h)).toArray.setIfInBounds j' (.bool v)) 4 (0, 0))] = x :: y :: (A ++ (msegs n (updM M h j v) bs ++ r)) := by
  rw [show 2 + (A.length + h) = A.length + h + 1 + 1 by omega, List.set_cons_succ, List.set_cons_succ, List.set_append_right _ _ (by omega), show A.length + h - A.length = h by omega, msegs_upd hh hj]
theorem get2 {n h : Nat} {M : Nat → Nat → Bool} {bs : List Nat} {x y : Seg} {A r : Heap} (hh : h < bs.length) : (x :: y :: (A ++ (msegs n M bs ++ r)))[2 + (A.length + h)]? = some [(bs.getD h 0, Obj.cells (rowC n (M h)).toArray 4 (0, 0))] := by
  rw [show 2 + (A.length + h) = A.length + h + 1 + 1 by omega, List.getElem?_cons_succ, List.getElem?_cons_succ, List.getElem?_append_right (by omega), show A.length + h - A.length = h by omega]; exact msegs_get hh
theorem UM_zero (rs : List RuleD) (dn : Bool) : UM rs 0 0 dn = Z2 := by
  funext a b; unfold UM; rw [usesP_zero]; simp [uses]
theorem UM_full {rs : List RuleD} {q : Nat} (hq : q < rs.length) (dn : Bool) : UM rs q rs[q].body.length dn = UM rs (q + 1) 0 dn := by
  funext a b; unfold UM; rw [usesP_full hq, usesP_zero]
theorem UM_end (rs : List RuleD) (dn : Bool) : UM rs rs.length 0 dn = fun (a b : Nat) => uses a b dn rs := by
  funext a b; unfold UM; rw [usesP_zero, List.take_length]
theorem UM_upd {rs : List RuleD} {q j h b : Nat} (hq : q < rs.length) (hj : j < rs[q].body.length) (hh : rs[q].head = h) (hb : rs[q].body[j].rel = b) (dn v : Bool) (hv : v = (UM rs q j dn h b || (rs[q].body[j].neg || !dn))) : updM (UM rs q j dn) h b v = UM rs q (j + 1) dn := by
  funext x y
  unfold updM
  show _ = usesP rs q (j + 1) x y dn
  rw [usesP_succ hq hj]
  by_cases hc : x = h ∧ y = b
  · obtain ⟨rfl, rfl⟩ := hc
    rw [if_pos ⟨rfl, rfl⟩, hv]
    simp [hit, hh, hb]
  · rw [if_neg hc]
    have : (decide (rs[q].head = (x : Int)) && hit (y : Int) dn rs[q].body[j]) = false := by
      rw [Bool.eq_false_iff]
      intro h2
      simp only [hit, Bool.and_eq_true, decide_eq_true_eq, hh, hb] at h2
      exact hc ⟨by omega, by omega⟩
    rw [this, Bool.or_false]

set_option maxHeartbeats 2000000 in
theorem direct_fn {p : Option Addr} {rs : List RuleD} {c R : Nat} (hr : Rules S w0 [] p rs) (hl : rs.length < 2 ^ 63) (hbl : ∀ r ∈ rs, r.body.length < 2 ^ 63) (hR : R ≤ 48) (hg : RngR R rs) :
    Rt Try.prog 21 [.int .i64 (R : Int), .slice p rs.length c].toArray S w0 η (fun v η' => ∃ a cap a2 cap2 segs, v = .tuple #[.slice a R cap, .slice a2 R cap2] ∧ η' = segs ++ η ∧ Mat S w0 segs a R (EU rs) ∧ Mat S w0 segs a2 R (ED rs)) := by
  have hF := open_wide
  refine Rt.of (fn := Try.f21) Try.func21 rfl rfl ?_
  refine T.seq ?_
  refine T.region ?_
  refine TL.assign hF rfl rfl ?_
  refine TL.assign hF rfl rfl ?_
  refine TL.nil ?_
  refine TQ.then_n ?_
  refine T.seq ?_
  refine T.seq ?_
  refine T.region ?_
  refine TL.move hF rfl rfl ?_
  refine TL.move hF rfl rfl ?_
  refine TL.nil ?_
  refine TQ.then_n ?_
  refine T.block ?_
  refine T.hnil ?_
  refine T.hnil ?_
  refine T.loop (ι := Nat × (List Nat × Option Addr × Nat × Seg) × (List Nat × Option Addr × Nat × Seg)) (fun i => i.1 ≤ R ∧ i.2.1.1.length = i.1 ∧ i.2.2.1.length = i.1 ∧ OSl 42 1 (.slice i.2.1.2.1 i.1 i.2.1.2.2.1) i.1 (i.2.1.1.map (rowV R)) i.2.1.2.2.2 ∧ OSl 42 1 (.slice i.2.2.2.1 i.1 i.2.2.2.2.1) i.1 (i.2.2.1.map (rowV R)) i.2.2.2.2.2) (fun i => [(0, .int .i64 (R : Int)), (1, .slice p rs.length c), (4, .slice i.2.1.2.1 i.1 i.2.1.2.2.1), (5, .slice i.2.2.2.1 i.1 i.2.2.2.2.1), (10, .int .i64 (R : Int)), (11, .int .i64 (i.1 : Int))]) (fun i => i.2.1.2.2.2 :: i.2.2.2.2.2 :: (msegs R Z2 i.2.1.1 ++ (msegs R Z2 i.2.2.1 ++ η))) (fun i => R - i.1) (0, ([], none, 0, []), ([], none, 0, [])) ⟨Nat.zero_le _, rfl, rfl, OSl.nil 42 1, OSl.nil 42 1⟩ ⟨rfl, rfl, rfl, rfl, rfl, rfl, trivial⟩ rfl ?_
  rintro ⟨k, ⟨bs1, a1, c1, g1⟩, ⟨bs2, a2, c2, g2⟩⟩ ⟨hk, hb1, hb2, ho1, ho2⟩
  simp only at hk hb1 hb2 ho1 ho2
  refine T.seq ?_
  refine T.region ?_
  refine TL.bin hF rfl rfl rfl rfl ?_
  refine TL.nil ?_
  refine TQ.then_n ?_
  refine T.seq ?_
  first | refine T.cond_d rfl (fun ht12 => ?_) (fun ht12 => ?_) | refine T.cond _ rfl (fun ht12 => ?_) (fun ht12 => ?_)
  · refine T.skip ?_
    refine TQ.then_n ?_
    refine T.seq ?_
    refine T.block ?_
    have hkR : k < R := by have h : (k : Int) < R := ht12; omega
    refine T.drawH 9 mixed ?_
    refine DH.pure (i := 0) [(4, _, none)] rfl rfl rfl rfl ⟨⟨rfl, by kernel_rfl⟩, trivial⟩ (fun _ ext => TL.move hF rfl rfl TL.fin) ?_
    refine DH.pure (i := 1) [(0, _, none)] rfl rfl rfl rfl ⟨⟨rfl, by kernel_rfl⟩, trivial⟩ (fun _ ext => TL.move hF rfl rfl TL.fin) ?_
    refine DH.pure (i := 5) [(5, _, none)] rfl rfl rfl rfl ⟨⟨rfl, by kernel_rfl⟩, trivial⟩ (fun _ ext => TL.move hF rfl rfl TL.fin) ?_
    refine DH.pure (i := 6) [(0, _, none)] rfl rfl rfl rfl ⟨⟨rfl, by kernel_rfl⟩, trivial⟩ (fun _ ext => TL.move hF rfl rfl TL.fin) ?_
    refine DH.heavy2 (h1 := 2) (h2 := 7) (by kernel_rfl) (by kernel_rfl) (by kernel_rfl) (by kernel_rfl) ⟨_, _, [(14, _, some 1)], rfl, rfl, rfl, rfl, ⟨⟨rfl, rfl, rfl⟩, trivial⟩, by kernel_rfl, fun ext => ?_⟩ ⟨_, _, [(19, _, some 6)], rfl, rfl, rfl, rfl, ⟨⟨rfl, rfl, rfl⟩, trivial⟩, by kernel_rfl, fun ext => ?_⟩
    · refine TL.makeSlice hF (k := R) rfl rfl rfl (by omega) (by omega) rfl (fun b15 => ?_)
      refine TL.finD ?_
      refine DH.heavy2 (h1 := 3) (h2 := 7) (by kernel_rfl) (by kernel_rfl) (by kernel_rfl) (by kernel_rfl) ⟨_, _, [(15, _, some 2)], rfl, rfl, rfl, rfl, ⟨⟨rfl, rfl, rfl⟩, trivial⟩, by kernel_rfl, fun ext => ?_⟩ ⟨_, _, [(19, _, some 6)], rfl, rfl, rfl, rfl, ⟨⟨rfl, rfl, rfl⟩, trivial⟩, by kernel_rfl, fun ext => ?_⟩
      · refine TL.buildSlice hF rfl (cs := #[rowV R b15]) (e := 42) (fun w => by kernel_rfl) rfl (fun b16 => ?_)
        refine TL.finD ?_
        refine DH.heavy2 (h1 := 4) (h2 := 7) (by kernel_rfl) (by kernel_rfl) (by kernel_rfl) (by kernel_rfl) ⟨_, _, [(13, _, some 0), (16, _, some 3)], rfl, rfl, rfl, rfl, ⟨⟨rfl, rfl, rfl⟩, ⟨rfl, rfl, rfl⟩, trivial⟩, by kernel_rfl, fun ext => ?_⟩ ⟨_, _, [(19, _, some 6)], rfl, rfl, rfl, rfl, ⟨⟨rfl, rfl, rfl⟩, trivial⟩, by kernel_rfl, fun ext => ?_⟩
        · first | refine TL.append hF 1 rfl rfl rfl ho1 (row_own (cs := [rowV R b15]) (e := 42) (by simp)).src rfl rfl (by simp [rowV, Value.oneCell']) (by omega) (by omega) rfl (fun xa xc xg xo => ?_) | refine TL.append hF 2 rfl rfl rfl ho1 (row_own (cs := [rowV R b15]) (e := 42) (by simp)).src rfl rfl (by simp [rowV, Value.oneCell']) (by omega) (by omega) rfl (fun xa xc xg xo => ?_) | refine TL.append hF 3 rfl rfl rfl ho1 (row_own (cs := [rowV R b15]) (e := 42) (by simp)).src rfl rfl (by simp [rowV, Value.oneCell']) (by omega) (by omega) rfl (fun xa xc xg xo => ?_) | refine TL.append hF 4 rfl rfl rfl ho1 (row_own (cs := [rowV R b15]) (e := 42) (by simp)).src rfl rfl (by simp [rowV, Value.oneCell']) (by omega) (by omega) rfl (fun xa xc xg xo => ?_) | refine TL.append hF 5 rfl rfl rfl ho1 (row_own (cs := [rowV R b15]) (e := 42) (by simp)).src rfl rfl (by simp [rowV, Value.oneCell']) (by omega) (by omega) rfl (fun xa xc xg xo => ?_)
          refine TL.finD ?_
          refine DH.heavy 7 [(19, _, some 6)] (by kernel_rfl) (by kernel_rfl) (by kernel_rfl) (by kernel_rfl) rfl rfl rfl rfl ⟨⟨rfl, rfl, rfl⟩, trivial⟩ (by kernel_rfl) (fun ext => ?_)
          refine TL.makeSlice hF (k := R) rfl rfl rfl (by omega) (by omega) rfl (fun b20 => ?_)
          refine TL.finD ?_
          refine DH.heavy 8 [(20, _, some 7)] (by kernel_rfl) (by kernel_rfl) (by kernel_rfl) (by kernel_rfl) rfl rfl rfl rfl ⟨⟨rfl, rfl, rfl⟩, trivial⟩ (by kernel_rfl) (fun ext => ?_)
          refine TL.buildSlice hF rfl (cs := #[rowV R b20]) (e := 42) (fun w => by kernel_rfl) rfl (fun b21 => ?_)
          refine TL.finD ?_
          refine DH.done [(21, _), (20, _), (17, _), (16, _), (15, _), (19, _), (18, _), (14, _), (13, _)] [_, _, _] (by kernel_rfl) (by kernel_rfl) (by kernel_rfl) (by kernel_rfl) rfl rfl ?_
          first | refine TL.append hF 1 rfl rfl rfl ho2 (row_own (cs := [rowV R b20]) (e := 42) (by simp)).src rfl rfl (by simp [rowV, Value.oneCell']) (by omega) (by omega) rfl (fun ya yc yg yo => ?_) | refine TL.append hF 2 rfl rfl rfl ho2 (row_own (cs := [rowV R b20]) (e := 42) (by simp)).src rfl rfl (by simp [rowV, Value.oneCell']) (by omega) (by omega) rfl (fun ya yc yg yo => ?_) | refine TL.append hF 3 rfl rfl rfl ho2 (row_own (cs := [rowV R b20]) (e := 42) (by simp)).src rfl rfl (by simp [rowV, Value.oneCell']) (by omega) (by omega) rfl (fun ya yc yg yo => ?_) | refine TL.append hF 4 rfl rfl rfl ho2 (row_own (cs := [rowV R b20]) (e := 42) (by simp)).src rfl rfl (by simp [rowV, Value.oneCell']) (by omega) (by omega) rfl (fun ya yc yg yo => ?_) | refine TL.append hF 5 rfl rfl rfl ho2 (row_own (cs := [rowV R b20]) (e := 42) (by simp)).src rfl rfl (by simp [rowV, Value.oneCell']) (by omega) (by omega) rfl (fun ya yc yg yo => ?_)
          refine TL.assign hF rfl rfl ?_
          refine TL.assign hF rfl rfl ?_
          refine TL.nil ?_
          refine TQ.block_n ?_
          refine TQ.then_n ?_
          refine T.region ?_
          refine TL.add hF rfl rfl (by omega) (by omega) rfl ?_
          refine TL.move hF rfl rfl ?_
          refine TL.nil ?_
          first
            | refine TQ.pick [1, 3, 4, 5] [_, _, _, _, _, _] rfl rfl (η' := [(b15, .cells (List.replicate R (.bool false)).toArray 4 (0, 0))] :: [(b20, .cells (List.replicate R (.bool false)).toArray 4 (0, 0))] :: xg :: yg :: (msegs R Z2 bs1 ++ (msegs R Z2 bs2 ++ η))) rfl ?_
            | refine TQ.pick [2, 3, 4, 5] [_, _, _, _, _, _] rfl rfl (η' := [(b15, .cells (List.replicate R (.bool false)).toArray 4 (0, 0))] :: [(b20, .cells (List.replicate R (.bool false)).toArray 4 (0, 0))] :: xg :: yg :: (msegs R Z2 bs1 ++ (msegs R Z2 bs2 ++ η))) rfl ?_
            | refine TQ.pick [3, 1, 4, 5] [_, _, _, _, _, _] rfl rfl (η' := [(b15, .cells (List.replicate R (.bool false)).toArray 4 (0, 0))] :: [(b20, .cells (List.replicate R (.bool false)).toArray 4 (0, 0))] :: xg :: yg :: (msegs R Z2 bs1 ++ (msegs R Z2 bs2 ++ η))) rfl ?_
            | refine TQ.pick [3, 2, 4, 5] [_, _, _, _, _, _] rfl rfl (η' := [(b15, .cells (List.replicate R (.bool false)).toArray 4 (0, 0))] :: [(b20, .cells (List.replicate R (.bool false)).toArray 4 (0, 0))] :: xg :: yg :: (msegs R Z2 bs1 ++ (msegs R Z2 bs2 ++ η))) rfl ?_
          rw [rowC_false]
          refine TQ.hperm (xg :: yg :: (msegs R Z2 (bs1 ++ [b15]) ++ (msegs R Z2 (bs2 ++ [b20]) ++ η))) (by rw [msegs_snoc, msegs_snoc]; exact two_rows) ?_
          exact TQ.round (k + 1, (bs1 ++ [b15], xa, xc, xg), (bs2 ++ [b20], ya, yc, yg)) ⟨by simp only; omega, by simp [hb1], by simp [hb2], by simpa using xo, by simpa using yo⟩ (by simp only; omega) ⟨rfl, rfl, rfl, rfl, rfl, rfl, trivial⟩ rfl
        · refine TL.makeSlice hF (k := R) rfl rfl rfl (by omega) (by omega) rfl (fun b20 => ?_)
          refine TL.finD ?_
          refine DH.heavy2 (h1 := 4) (h2 := 8) (by kernel_rfl) (by kernel_rfl) (by kernel_rfl) (by kernel_rfl) ⟨_, _, [(13, _, some 0), (16, _, some 3)], rfl, rfl, rfl, rfl, ⟨⟨rfl, rfl, rfl⟩, ⟨rfl, rfl, rfl⟩, trivial⟩, by kernel_rfl, fun ext => ?_⟩ ⟨_, _, [(20, _, some 7)], rfl, rfl, rfl, rfl, ⟨⟨rfl, rfl, rfl⟩, trivial⟩, by kernel_rfl, fun ext => ?_⟩
          · first | refine TL.append hF 1 rfl rfl rfl ho1 (row_own (cs := [rowV R b15]) (e := 42) (by simp)).src rfl rfl (by simp [rowV, Value.oneCell']) (by omega) (by omega) rfl (fun xa xc xg xo => ?_) | refine TL.append hF 2 rfl rfl rfl ho1 (row_own (cs := [rowV R b15]) (e := 42) (by simp)).src rfl rfl (by simp [rowV, Value.oneCell']) (by omega) (by omega) rfl (fun xa xc xg xo => ?_) | refine TL.append hF 3 rfl rfl rfl ho1 (row_own (cs := [rowV R b15]) (e := 42) (by simp)).src rfl rfl (by simp [rowV, Value.oneCell']) (by omega) (by omega) rfl (fun xa xc xg xo => ?_) | refine TL.append hF 4 rfl rfl rfl ho1 (row_own (cs := [rowV R b15]) (e := 42) (by simp)).src rfl rfl (by simp [rowV, Value.oneCell']) (by omega) (by omega) rfl (fun xa xc xg xo => ?_) | refine TL.append hF 5 rfl rfl rfl ho1 (row_own (cs := [rowV R b15]) (e := 42) (by simp)).src rfl rfl (by simp [rowV, Value.oneCell']) (by omega) (by omega) rfl (fun xa xc xg xo => ?_)
            refine TL.finD ?_
            refine DH.heavy 8 [(20, _, some 7)] (by kernel_rfl) (by kernel_rfl) (by kernel_rfl) (by kernel_rfl) rfl rfl rfl rfl ⟨⟨rfl, rfl, rfl⟩, trivial⟩ (by kernel_rfl) (fun ext => ?_)
            refine TL.buildSlice hF rfl (cs := #[rowV R b20]) (e := 42) (fun w => by kernel_rfl) rfl (fun b21 => ?_)
            refine TL.finD ?_
            refine DH.done [(21, _), (17, _), (20, _), (16, _), (15, _), (19, _), (18, _), (14, _), (13, _)] [_, _, _] (by kernel_rfl) (by kernel_rfl) (by kernel_rfl) (by kernel_rfl) rfl rfl ?_
            first | refine TL.append hF 1 rfl rfl rfl ho2 (row_own (cs := [rowV R b20]) (e := 42) (by simp)).src rfl rfl (by simp [rowV, Value.oneCell']) (by omega) (by omega) rfl (fun ya yc yg yo => ?_) | refine TL.append hF 2 rfl rfl rfl ho2 (row_own (cs := [rowV R b20]) (e := 42) (by simp)).src rfl rfl (by simp [rowV, Value.oneCell']) (by omega) (by omega) rfl (fun ya yc yg yo => ?_) | refine TL.append hF 3 rfl rfl rfl ho2 (row_own (cs := [rowV R b20]) (e := 42) (by simp)).src rfl rfl (by simp [rowV, Value.oneCell']) (by omega) (by omega) rfl (fun ya yc yg yo => ?_) | refine TL.append hF 4 rfl rfl rfl ho2 (row_own (cs := [rowV R b20]) (e := 42) (by simp)).src rfl rfl (by simp [rowV, Value.oneCell']) (by omega) (by omega) rfl (fun ya yc yg yo => ?_) | refine TL.append hF 5 rfl rfl rfl ho2 (row_own (cs := [rowV R b20]) (e := 42) (by simp)).src rfl rfl (by simp [rowV, Value.oneCell']) (by omega) (by omega) rfl (fun ya yc yg yo => ?_)
            refine TL.assign hF rfl rfl ?_
            refine TL.assign hF rfl rfl ?_
            refine TL.nil ?_
            refine TQ.block_n ?_
            refine TQ.then_n ?_
            refine T.region ?_
            refine TL.add hF rfl rfl (by omega) (by omega) rfl ?_
            refine TL.move hF rfl rfl ?_
            refine TL.nil ?_
            first
              | refine TQ.pick [1, 3, 4, 5] [_, _, _, _, _, _] rfl rfl (η' := [(b15, .cells (List.replicate R (.bool false)).toArray 4 (0, 0))] :: [(b20, .cells (List.replicate R (.bool false)).toArray 4 (0, 0))] :: xg :: yg :: (msegs R Z2 bs1 ++ (msegs R Z2 bs2 ++ η))) rfl ?_
              | refine TQ.pick [2, 3, 4, 5] [_, _, _, _, _, _] rfl rfl (η' := [(b15, .cells (List.replicate R (.bool false)).toArray 4 (0, 0))] :: [(b20, .cells (List.replicate R (.bool false)).toArray 4 (0, 0))] :: xg :: yg :: (msegs R Z2 bs1 ++ (msegs R Z2 bs2 ++ η))) rfl ?_
              | refine TQ.pick [3, 1, 4, 5] [_, _, _, _, _, _] rfl rfl (η' := [(b15, .cells (List.replicate R (.bool false)).toArray 4 (0, 0))] :: [(b20, .cells (List.replicate R (.bool false)).toArray 4 (0, 0))] :: xg :: yg :: (msegs R Z2 bs1 ++ (msegs R Z2 bs2 ++ η))) rfl ?_
              | refine TQ.pick [3, 2, 4, 5] [_, _, _, _, _, _] rfl rfl (η' := [(b15, .cells (List.replicate R (.bool false)).toArray 4 (0, 0))] :: [(b20, .cells (List.replicate R (.bool false)).toArray 4 (0, 0))] :: xg :: yg :: (msegs R Z2 bs1 ++ (msegs R Z2 bs2 ++ η))) rfl ?_
            rw [rowC_false]
            refine TQ.hperm (xg :: yg :: (msegs R Z2 (bs1 ++ [b15]) ++ (msegs R Z2 (bs2 ++ [b20]) ++ η))) (by rw [msegs_snoc, msegs_snoc]; exact two_rows) ?_
            exact TQ.round (k + 1, (bs1 ++ [b15], xa, xc, xg), (bs2 ++ [b20], ya, yc, yg)) ⟨by simp only; omega, by simp [hb1], by simp [hb2], by simpa using xo, by simpa using yo⟩ (by simp only; omega) ⟨rfl, rfl, rfl, rfl, rfl, rfl, trivial⟩ rfl
          · refine TL.buildSlice hF rfl (cs := #[rowV R b20]) (e := 42) (fun w => by kernel_rfl) rfl (fun b21 => ?_)
            refine TL.finD ?_
            refine DH.heavy 4 [(13, _, some 0), (16, _, some 3)] (by kernel_rfl) (by kernel_rfl) (by kernel_rfl) (by kernel_rfl) rfl rfl rfl rfl ⟨⟨rfl, rfl, rfl⟩, ⟨rfl, rfl, rfl⟩, trivial⟩ (by kernel_rfl) (fun ext => ?_)
            first | refine TL.append hF 1 rfl rfl rfl ho1 (row_own (cs := [rowV R b15]) (e := 42) (by simp)).src rfl rfl (by simp [rowV, Value.oneCell']) (by omega) (by omega) rfl (fun xa xc xg xo => ?_) | refine TL.append hF 2 rfl rfl rfl ho1 (row_own (cs := [rowV R b15]) (e := 42) (by simp)).src rfl rfl (by simp [rowV, Value.oneCell']) (by omega) (by omega) rfl (fun xa xc xg xo => ?_) | refine TL.append hF 3 rfl rfl rfl ho1 (row_own (cs := [rowV R b15]) (e := 42) (by simp)).src rfl rfl (by simp [rowV, Value.oneCell']) (by omega) (by omega) rfl (fun xa xc xg xo => ?_) | refine TL.append hF 4 rfl rfl rfl ho1 (row_own (cs := [rowV R b15]) (e := 42) (by simp)).src rfl rfl (by simp [rowV, Value.oneCell']) (by omega) (by omega) rfl (fun xa xc xg xo => ?_) | refine TL.append hF 5 rfl rfl rfl ho1 (row_own (cs := [rowV R b15]) (e := 42) (by simp)).src rfl rfl (by simp [rowV, Value.oneCell']) (by omega) (by omega) rfl (fun xa xc xg xo => ?_)
            refine TL.finD ?_
            refine DH.done [(17, _), (21, _), (20, _), (16, _), (15, _), (19, _), (18, _), (14, _), (13, _)] [_, _, _] (by kernel_rfl) (by kernel_rfl) (by kernel_rfl) (by kernel_rfl) rfl rfl ?_
            first | refine TL.append hF 1 rfl rfl rfl ho2 (row_own (cs := [rowV R b20]) (e := 42) (by simp)).src rfl rfl (by simp [rowV, Value.oneCell']) (by omega) (by omega) rfl (fun ya yc yg yo => ?_) | refine TL.append hF 2 rfl rfl rfl ho2 (row_own (cs := [rowV R b20]) (e := 42) (by simp)).src rfl rfl (by simp [rowV, Value.oneCell']) (by omega) (by omega) rfl (fun ya yc yg yo => ?_) | refine TL.append hF 3 rfl rfl rfl ho2 (row_own (cs := [rowV R b20]) (e := 42) (by simp)).src rfl rfl (by simp [rowV, Value.oneCell']) (by omega) (by omega) rfl (fun ya yc yg yo => ?_) | refine TL.append hF 4 rfl rfl rfl ho2 (row_own (cs := [rowV R b20]) (e := 42) (by simp)).src rfl rfl (by simp [rowV, Value.oneCell']) (by omega) (by omega) rfl (fun ya yc yg yo => ?_) | refine TL.append hF 5 rfl rfl rfl ho2 (row_own (cs := [rowV R b20]) (e := 42) (by simp)).src rfl rfl (by simp [rowV, Value.oneCell']) (by omega) (by omega) rfl (fun ya yc yg yo => ?_)
            refine TL.assign hF rfl rfl ?_
            refine TL.assign hF rfl rfl ?_
            refine TL.nil ?_
            refine TQ.block_n ?_
            refine TQ.then_n ?_
            refine T.region ?_
            refine TL.add hF rfl rfl (by omega) (by omega) rfl ?_
            refine TL.move hF rfl rfl ?_
            refine TL.nil ?_
            first
              | refine TQ.pick [1, 3, 4, 5] [_, _, _, _, _, _] rfl rfl (η' := [(b15, .cells (List.replicate R (.bool false)).toArray 4 (0, 0))] :: [(b20, .cells (List.replicate R (.bool false)).toArray 4 (0, 0))] :: xg :: yg :: (msegs R Z2 bs1 ++ (msegs R Z2 bs2 ++ η))) rfl ?_
              | refine TQ.pick [2, 3, 4, 5] [_, _, _, _, _, _] rfl rfl (η' := [(b15, .cells (List.replicate R (.bool false)).toArray 4 (0, 0))] :: [(b20, .cells (List.replicate R (.bool false)).toArray 4 (0, 0))] :: xg :: yg :: (msegs R Z2 bs1 ++ (msegs R Z2 bs2 ++ η))) rfl ?_
              | refine TQ.pick [3, 1, 4, 5] [_, _, _, _, _, _] rfl rfl (η' := [(b15, .cells (List.replicate R (.bool false)).toArray 4 (0, 0))] :: [(b20, .cells (List.replicate R (.bool false)).toArray 4 (0, 0))] :: xg :: yg :: (msegs R Z2 bs1 ++ (msegs R Z2 bs2 ++ η))) rfl ?_
              | refine TQ.pick [3, 2, 4, 5] [_, _, _, _, _, _] rfl rfl (η' := [(b15, .cells (List.replicate R (.bool false)).toArray 4 (0, 0))] :: [(b20, .cells (List.replicate R (.bool false)).toArray 4 (0, 0))] :: xg :: yg :: (msegs R Z2 bs1 ++ (msegs R Z2 bs2 ++ η))) rfl ?_
            rw [rowC_false]
            refine TQ.hperm (xg :: yg :: (msegs R Z2 (bs1 ++ [b15]) ++ (msegs R Z2 (bs2 ++ [b20]) ++ η))) (by rw [msegs_snoc, msegs_snoc]; exact two_rows) ?_
            exact TQ.round (k + 1, (bs1 ++ [b15], xa, xc, xg), (bs2 ++ [b20], ya, yc, yg)) ⟨by simp only; omega, by simp [hb1], by simp [hb2], by simpa using xo, by simpa using yo⟩ (by simp only; omega) ⟨rfl, rfl, rfl, rfl, rfl, rfl, trivial⟩ rfl
      · refine TL.makeSlice hF (k := R) rfl rfl rfl (by omega) (by omega) rfl (fun b20 => ?_)
        refine TL.finD ?_
        refine DH.heavy2 (h1 := 3) (h2 := 8) (by kernel_rfl) (by kernel_rfl) (by kernel_rfl) (by kernel_rfl) ⟨_, _, [(15, _, some 2)], rfl, rfl, rfl, rfl, ⟨⟨rfl, rfl, rfl⟩, trivial⟩, by kernel_rfl, fun ext => ?_⟩ ⟨_, _, [(20, _, some 7)], rfl, rfl, rfl, rfl, ⟨⟨rfl, rfl, rfl⟩, trivial⟩, by kernel_rfl, fun ext => ?_⟩
        · refine TL.buildSlice hF rfl (cs := #[rowV R b15]) (e := 42) (fun w => by kernel_rfl) rfl (fun b16 => ?_)
          refine TL.finD ?_
          refine DH.heavy2 (h1 := 4) (h2 := 8) (by kernel_rfl) (by kernel_rfl) (by kernel_rfl) (by kernel_rfl) ⟨_, _, [(13, _, some 0), (16, _, some 3)], rfl, rfl, rfl, rfl, ⟨⟨rfl, rfl, rfl⟩, ⟨rfl, rfl, rfl⟩, trivial⟩, by kernel_rfl, fun ext => ?_⟩ ⟨_, _, [(20, _, some 7)], rfl, rfl, rfl, rfl, ⟨⟨rfl, rfl, rfl⟩, trivial⟩, by kernel_rfl, fun ext => ?_⟩
          · first | refine TL.append hF 1 rfl rfl rfl ho1 (row_own (cs := [rowV R b15]) (e := 42) (by simp)).src rfl rfl (by simp [rowV, Value.oneCell']) (by omega) (by omega) rfl (fun xa xc xg xo => ?_) | refine TL.append hF 2 rfl rfl rfl ho1 (row_own (cs := [rowV R b15]) (e := 42) (by simp)).src rfl rfl (by simp [rowV, Value.oneCell']) (by omega) (by omega) rfl (fun xa xc xg xo => ?_) | refine TL.append hF 3 rfl rfl rfl ho1 (row_own (cs := [rowV R b15]) (e := 42) (by simp)).src rfl rfl (by simp [rowV, Value.oneCell']) (by omega) (by omega) rfl (fun xa xc xg xo => ?_) | refine TL.append hF 4 rfl rfl rfl ho1 (row_own (cs := [rowV R b15]) (e := 42) (by simp)).src rfl rfl (by simp [rowV, Value.oneCell']) (by omega) (by omega) rfl (fun xa xc xg xo => ?_) | refine TL.append hF 5 rfl rfl rfl ho1 (row_own (cs := [rowV R b15]) (e := 42) (by simp)).src rfl rfl (by simp [rowV, Value.oneCell']) (by omega) (by omega) rfl (fun xa xc xg xo => ?_)
            refine TL.finD ?_
            refine DH.heavy 8 [(20, _, some 7)] (by kernel_rfl) (by kernel_rfl) (by kernel_rfl) (by kernel_rfl) rfl rfl rfl rfl ⟨⟨rfl, rfl, rfl⟩, trivial⟩ (by kernel_rfl) (fun ext => ?_)
            refine TL.buildSlice hF rfl (cs := #[rowV R b20]) (e := 42) (fun w => by kernel_rfl) rfl (fun b21 => ?_)
            refine TL.finD ?_
            refine DH.done [(21, _), (17, _), (16, _), (20, _), (15, _), (19, _), (18, _), (14, _), (13, _)] [_, _, _] (by kernel_rfl) (by kernel_rfl) (by kernel_rfl) (by kernel_rfl) rfl rfl ?_
            first | refine TL.append hF 1 rfl rfl rfl ho2 (row_own (cs := [rowV R b20]) (e := 42) (by simp)).src rfl rfl (by simp [rowV, Value.oneCell']) (by omega) (by omega) rfl (fun ya yc yg yo => ?_) | refine TL.append hF 2 rfl rfl rfl ho2 (row_own (cs := [rowV R b20]) (e := 42) (by simp)).src rfl rfl (by simp [rowV, Value.oneCell']) (by omega) (by omega) rfl (fun ya yc yg yo => ?_) | refine TL.append hF 3 rfl rfl rfl ho2 (row_own (cs := [rowV R b20]) (e := 42) (by simp)).src rfl rfl (by simp [rowV, Value.oneCell']) (by omega) (by omega) rfl (fun ya yc yg yo => ?_) | refine TL.append hF 4 rfl rfl rfl ho2 (row_own (cs := [rowV R b20]) (e := 42) (by simp)).src rfl rfl (by simp [rowV, Value.oneCell']) (by omega) (by omega) rfl (fun ya yc yg yo => ?_) | refine TL.append hF 5 rfl rfl rfl ho2 (row_own (cs := [rowV R b20]) (e := 42) (by simp)).src rfl rfl (by simp [rowV, Value.oneCell']) (by omega) (by omega) rfl (fun ya yc yg yo => ?_)
            refine TL.assign hF rfl rfl ?_
            refine TL.assign hF rfl rfl ?_
            refine TL.nil ?_
            refine TQ.block_n ?_
            refine TQ.then_n ?_
            refine T.region ?_
            refine TL.add hF rfl rfl (by omega) (by omega) rfl ?_
            refine TL.move hF rfl rfl ?_
            refine TL.nil ?_
            first
              | refine TQ.pick [1, 3, 4, 5] [_, _, _, _, _, _] rfl rfl (η' := [(b15, .cells (List.replicate R (.bool false)).toArray 4 (0, 0))] :: [(b20, .cells (List.replicate R (.bool false)).toArray 4 (0, 0))] :: xg :: yg :: (msegs R Z2 bs1 ++ (msegs R Z2 bs2 ++ η))) rfl ?_
              | refine TQ.pick [2, 3, 4, 5] [_, _, _, _, _, _] rfl rfl (η' := [(b15, .cells (List.replicate R (.bool false)).toArray 4 (0, 0))] :: [(b20, .cells (List.replicate R (.bool false)).toArray 4 (0, 0))] :: xg :: yg :: (msegs R Z2 bs1 ++ (msegs R Z2 bs2 ++ η))) rfl ?_
              | refine TQ.pick [3, 1, 4, 5] [_, _, _, _, _, _] rfl rfl (η' := [(b15, .cells (List.replicate R (.bool false)).toArray 4 (0, 0))] :: [(b20, .cells (List.replicate R (.bool false)).toArray 4 (0, 0))] :: xg :: yg :: (msegs R Z2 bs1 ++ (msegs R Z2 bs2 ++ η))) rfl ?_
              | refine TQ.pick [3, 2, 4, 5] [_, _, _, _, _, _] rfl rfl (η' := [(b15, .cells (List.replicate R (.bool false)).toArray 4 (0, 0))] :: [(b20, .cells (List.replicate R (.bool false)).toArray 4 (0, 0))] :: xg :: yg :: (msegs R Z2 bs1 ++ (msegs R Z2 bs2 ++ η))) rfl ?_
            rw [rowC_false]
            refine TQ.hperm (xg :: yg :: (msegs R Z2 (bs1 ++ [b15]) ++ (msegs R Z2 (bs2 ++ [b20]) ++ η))) (by rw [msegs_snoc, msegs_snoc]; exact two_rows) ?_
            exact TQ.round (k + 1, (bs1 ++ [b15], xa, xc, xg), (bs2 ++ [b20], ya, yc, yg)) ⟨by simp only; omega, by simp [hb1], by simp [hb2], by simpa using xo, by simpa using yo⟩ (by simp only; omega) ⟨rfl, rfl, rfl, rfl, rfl, rfl, trivial⟩ rfl
          · refine TL.buildSlice hF rfl (cs := #[rowV R b20]) (e := 42) (fun w => by kernel_rfl) rfl (fun b21 => ?_)
            refine TL.finD ?_
            refine DH.heavy 4 [(13, _, some 0), (16, _, some 3)] (by kernel_rfl) (by kernel_rfl) (by kernel_rfl) (by kernel_rfl) rfl rfl rfl rfl ⟨⟨rfl, rfl, rfl⟩, ⟨rfl, rfl, rfl⟩, trivial⟩ (by kernel_rfl) (fun ext => ?_)
            first | refine TL.append hF 1 rfl rfl rfl ho1 (row_own (cs := [rowV R b15]) (e := 42) (by simp)).src rfl rfl (by simp [rowV, Value.oneCell']) (by omega) (by omega) rfl (fun xa xc xg xo => ?_) | refine TL.append hF 2 rfl rfl rfl ho1 (row_own (cs := [rowV R b15]) (e := 42) (by simp)).src rfl rfl (by simp [rowV, Value.oneCell']) (by omega) (by omega) rfl (fun xa xc xg xo => ?_) | refine TL.append hF 3 rfl rfl rfl ho1 (row_own (cs := [rowV R b15]) (e := 42) (by simp)).src rfl rfl (by simp [rowV, Value.oneCell']) (by omega) (by omega) rfl (fun xa xc xg xo => ?_) | refine TL.append hF 4 rfl rfl rfl ho1 (row_own (cs := [rowV R b15]) (e := 42) (by simp)).src rfl rfl (by simp [rowV, Value.oneCell']) (by omega) (by omega) rfl (fun xa xc xg xo => ?_) | refine TL.append hF 5 rfl rfl rfl ho1 (row_own (cs := [rowV R b15]) (e := 42) (by simp)).src rfl rfl (by simp [rowV, Value.oneCell']) (by omega) (by omega) rfl (fun xa xc xg xo => ?_)
            refine TL.finD ?_
            refine DH.done [(17, _), (21, _), (16, _), (20, _), (15, _), (19, _), (18, _), (14, _), (13, _)] [_, _, _] (by kernel_rfl) (by kernel_rfl) (by kernel_rfl) (by kernel_rfl) rfl rfl ?_
            first | refine TL.append hF 1 rfl rfl rfl ho2 (row_own (cs := [rowV R b20]) (e := 42) (by simp)).src rfl rfl (by simp [rowV, Value.oneCell']) (by omega) (by omega) rfl (fun ya yc yg yo => ?_) | refine TL.append hF 2 rfl rfl rfl ho2 (row_own (cs := [rowV R b20]) (e := 42) (by simp)).src rfl rfl (by simp [rowV, Value.oneCell']) (by omega) (by omega) rfl (fun ya yc yg yo => ?_) | refine TL.append hF 3 rfl rfl rfl ho2 (row_own (cs := [rowV R b20]) (e := 42) (by simp)).src rfl rfl (by simp [rowV, Value.oneCell']) (by omega) (by omega) rfl (fun ya yc yg yo => ?_) | refine TL.append hF 4 rfl rfl rfl ho2 (row_own (cs := [rowV R b20]) (e := 42) (by simp)).src rfl rfl (by simp [rowV, Value.oneCell']) (by omega) (by omega) rfl (fun ya yc yg yo => ?_) | refine TL.append hF 5 rfl rfl rfl ho2 (row_own (cs := [rowV R b20]) (e := 42) (by simp)).src rfl rfl (by simp [rowV, Value.oneCell']) (by omega) (by omega) rfl (fun ya yc yg yo => ?_)
            refine TL.assign hF rfl rfl ?_
            refine TL.assign hF rfl rfl ?_
            refine TL.nil ?_
            refine TQ.block_n ?_
            refine TQ.then_n ?_
            refine T.region ?_
            refine TL.add hF rfl rfl (by omega) (by omega) rfl ?_
            refine TL.move hF rfl rfl ?_
            refine TL.nil ?_
            first
              | refine TQ.pick [1, 3, 4, 5] [_, _, _, _, _, _] rfl rfl (η' := [(b15, .cells (List.replicate R (.bool false)).toArray 4 (0, 0))] :: [(b20, .cells (List.replicate R (.bool false)).toArray 4 (0, 0))] :: xg :: yg :: (msegs R Z2 bs1 ++ (msegs R Z2 bs2 ++ η))) rfl ?_
              | refine TQ.pick [2, 3, 4, 5] [_, _, _, _, _, _] rfl rfl (η' := [(b15, .cells (List.replicate R (.bool false)).toArray 4 (0, 0))] :: [(b20, .cells (List.replicate R (.bool false)).toArray 4 (0, 0))] :: xg :: yg :: (msegs R Z2 bs1 ++ (msegs R Z2 bs2 ++ η))) rfl ?_
              | refine TQ.pick [3, 1, 4, 5] [_, _, _, _, _, _] rfl rfl (η' := [(b15, .cells (List.replicate R (.bool false)).toArray 4 (0, 0))] :: [(b20, .cells (List.replicate R (.bool false)).toArray 4 (0, 0))] :: xg :: yg :: (msegs R Z2 bs1 ++ (msegs R Z2 bs2 ++ η))) rfl ?_
              | refine TQ.pick [3, 2, 4, 5] [_, _, _, _, _, _] rfl rfl (η' := [(b15, .cells (List.replicate R (.bool false)).toArray 4 (0, 0))] :: [(b20, .cells (List.replicate R (.bool false)).toArray 4 (0, 0))] :: xg :: yg :: (msegs R Z2 bs1 ++ (msegs R Z2 bs2 ++ η))) rfl ?_
            rw [rowC_false]
            refine TQ.hperm (xg :: yg :: (msegs R Z2 (bs1 ++ [b15]) ++ (msegs R Z2 (bs2 ++ [b20]) ++ η))) (by rw [msegs_snoc, msegs_snoc]; exact two_rows) ?_
            exact TQ.round (k + 1, (bs1 ++ [b15], xa, xc, xg), (bs2 ++ [b20], ya, yc, yg)) ⟨by simp only; omega, by simp [hb1], by simp [hb2], by simpa using xo, by simpa using yo⟩ (by simp only; omega) ⟨rfl, rfl, rfl, rfl, rfl, rfl, trivial⟩ rfl
        · refine TL.buildSlice hF rfl (cs := #[rowV R b20]) (e := 42) (fun w => by kernel_rfl) rfl (fun b21 => ?_)
          refine TL.finD ?_
          refine DH.heavy 3 [(15, _, some 2)] (by kernel_rfl) (by kernel_rfl) (by kernel_rfl) (by kernel_rfl) rfl rfl rfl rfl ⟨⟨rfl, rfl, rfl⟩, trivial⟩ (by kernel_rfl) (fun ext => ?_)
          refine TL.buildSlice hF rfl (cs := #[rowV R b15]) (e := 42) (fun w => by kernel_rfl) rfl (fun b16 => ?_)
          refine TL.finD ?_
          refine DH.heavy 4 [(13, _, some 0), (16, _, some 3)] (by kernel_rfl) (by kernel_rfl) (by kernel_rfl) (by kernel_rfl) rfl rfl rfl rfl ⟨⟨rfl, rfl, rfl⟩, ⟨rfl, rfl, rfl⟩, trivial⟩ (by kernel_rfl) (fun ext => ?_)
          first | refine TL.append hF 1 rfl rfl rfl ho1 (row_own (cs := [rowV R b15]) (e := 42) (by simp)).src rfl rfl (by simp [rowV, Value.oneCell']) (by omega) (by omega) rfl (fun xa xc xg xo => ?_) | refine TL.append hF 2 rfl rfl rfl ho1 (row_own (cs := [rowV R b15]) (e := 42) (by simp)).src rfl rfl (by simp [rowV, Value.oneCell']) (by omega) (by omega) rfl (fun xa xc xg xo => ?_) | refine TL.append hF 3 rfl rfl rfl ho1 (row_own (cs := [rowV R b15]) (e := 42) (by simp)).src rfl rfl (by simp [rowV, Value.oneCell']) (by omega) (by omega) rfl (fun xa xc xg xo => ?_) | refine TL.append hF 4 rfl rfl rfl ho1 (row_own (cs := [rowV R b15]) (e := 42) (by simp)).src rfl rfl (by simp [rowV, Value.oneCell']) (by omega) (by omega) rfl (fun xa xc xg xo => ?_) | refine TL.append hF 5 rfl rfl rfl ho1 (row_own (cs := [rowV R b15]) (e := 42) (by simp)).src rfl rfl (by simp [rowV, Value.oneCell']) (by omega) (by omega) rfl (fun xa xc xg xo => ?_)
          refine TL.finD ?_
          refine DH.done [(17, _), (16, _), (21, _), (20, _), (15, _), (19, _), (18, _), (14, _), (13, _)] [_, _, _] (by kernel_rfl) (by kernel_rfl) (by kernel_rfl) (by kernel_rfl) rfl rfl ?_
          first | refine TL.append hF 1 rfl rfl rfl ho2 (row_own (cs := [rowV R b20]) (e := 42) (by simp)).src rfl rfl (by simp [rowV, Value.oneCell']) (by omega) (by omega) rfl (fun ya yc yg yo => ?_) | refine TL.append hF 2 rfl rfl rfl ho2 (row_own (cs := [rowV R b20]) (e := 42) (by simp)).src rfl rfl (by simp [rowV, Value.oneCell']) (by omega) (by omega) rfl (fun ya yc yg yo => ?_) | refine TL.append hF 3 rfl rfl rfl ho2 (row_own (cs := [rowV R b20]) (e := 42) (by simp)).src rfl rfl (by simp [rowV, Value.oneCell']) (by omega) (by omega) rfl (fun ya yc yg yo => ?_) | refine TL.append hF 4 rfl rfl rfl ho2 (row_own (cs := [rowV R b20]) (e := 42) (by simp)).src rfl rfl (by simp [rowV, Value.oneCell']) (by omega) (by omega) rfl (fun ya yc yg yo => ?_) | refine TL.append hF 5 rfl rfl rfl ho2 (row_own (cs := [rowV R b20]) (e := 42) (by simp)).src rfl rfl (by simp [rowV, Value.oneCell']) (by omega) (by omega) rfl (fun ya yc yg yo => ?_)
          refine TL.assign hF rfl rfl ?_
          refine TL.assign hF rfl rfl ?_
          refine TL.nil ?_
          refine TQ.block_n ?_
          refine TQ.then_n ?_
          refine T.region ?_
          refine TL.add hF rfl rfl (by omega) (by omega) rfl ?_
          refine TL.move hF rfl rfl ?_
          refine TL.nil ?_
          first
            | refine TQ.pick [1, 3, 4, 5] [_, _, _, _, _, _] rfl rfl (η' := [(b15, .cells (List.replicate R (.bool false)).toArray 4 (0, 0))] :: [(b20, .cells (List.replicate R (.bool false)).toArray 4 (0, 0))] :: xg :: yg :: (msegs R Z2 bs1 ++ (msegs R Z2 bs2 ++ η))) rfl ?_
            | refine TQ.pick [2, 3, 4, 5] [_, _, _, _, _, _] rfl rfl (η' := [(b15, .cells (List.replicate R (.bool false)).toArray 4 (0, 0))] :: [(b20, .cells (List.replicate R (.bool false)).toArray 4 (0, 0))] :: xg :: yg :: (msegs R Z2 bs1 ++ (msegs R Z2 bs2 ++ η))) rfl ?_
            | refine TQ.pick [3, 1, 4, 5] [_, _, _, _, _, _] rfl rfl (η' := [(b15, .cells (List.replicate R (.bool false)).toArray 4 (0, 0))] :: [(b20, .cells (List.replicate R (.bool false)).toArray 4 (0, 0))] :: xg :: yg :: (msegs R Z2 bs1 ++ (msegs R Z2 bs2 ++ η))) rfl ?_
            | refine TQ.pick [3, 2, 4, 5] [_, _, _, _, _, _] rfl rfl (η' := [(b15, .cells (List.replicate R (.bool false)).toArray 4 (0, 0))] :: [(b20, .cells (List.replicate R (.bool false)).toArray 4 (0, 0))] :: xg :: yg :: (msegs R Z2 bs1 ++ (msegs R Z2 bs2 ++ η))) rfl ?_
          rw [rowC_false]
          refine TQ.hperm (xg :: yg :: (msegs R Z2 (bs1 ++ [b15]) ++ (msegs R Z2 (bs2 ++ [b20]) ++ η))) (by rw [msegs_snoc, msegs_snoc]; exact two_rows) ?_
          exact TQ.round (k + 1, (bs1 ++ [b15], xa, xc, xg), (bs2 ++ [b20], ya, yc, yg)) ⟨by simp only; omega, by simp [hb1], by simp [hb2], by simpa using xo, by simpa using yo⟩ (by simp only; omega) ⟨rfl, rfl, rfl, rfl, rfl, rfl, trivial⟩ rfl
    · refine TL.makeSlice hF (k := R) rfl rfl rfl (by omega) (by omega) rfl (fun b20 => ?_)
      refine TL.finD ?_
      refine DH.heavy2 (h1 := 2) (h2 := 8) (by kernel_rfl) (by kernel_rfl) (by kernel_rfl) (by kernel_rfl) ⟨_, _, [(14, _, some 1)], rfl, rfl, rfl, rfl, ⟨⟨rfl, rfl, rfl⟩, trivial⟩, by kernel_rfl, fun ext => ?_⟩ ⟨_, _, [(20, _, some 7)], rfl, rfl, rfl, rfl, ⟨⟨rfl, rfl, rfl⟩, trivial⟩, by kernel_rfl, fun ext => ?_⟩
      · refine TL.makeSlice hF (k := R) rfl rfl rfl (by omega) (by omega) rfl (fun b15 => ?_)
        refine TL.finD ?_
        refine DH.heavy2 (h1 := 3) (h2 := 8) (by kernel_rfl) (by kernel_rfl) (by kernel_rfl) (by kernel_rfl) ⟨_, _, [(15, _, some 2)], rfl, rfl, rfl, rfl, ⟨⟨rfl, rfl, rfl⟩, trivial⟩, by kernel_rfl, fun ext => ?_⟩ ⟨_, _, [(20, _, some 7)], rfl, rfl, rfl, rfl, ⟨⟨rfl, rfl, rfl⟩, trivial⟩, by kernel_rfl, fun ext => ?_⟩
        · refine TL.buildSlice hF rfl (cs := #[rowV R b15]) (e := 42) (fun w => by kernel_rfl) rfl (fun b16 => ?_)
          refine TL.finD ?_
          refine DH.heavy2 (h1 := 4) (h2 := 8) (by kernel_rfl) (by kernel_rfl) (by kernel_rfl) (by kernel_rfl) ⟨_, _, [(13, _, some 0), (16, _, some 3)], rfl, rfl, rfl, rfl, ⟨⟨rfl, rfl, rfl⟩, ⟨rfl, rfl, rfl⟩, trivial⟩, by kernel_rfl, fun ext => ?_⟩ ⟨_, _, [(20, _, some 7)], rfl, rfl, rfl, rfl, ⟨⟨rfl, rfl, rfl⟩, trivial⟩, by kernel_rfl, fun ext => ?_⟩
          · first | refine TL.append hF 1 rfl rfl rfl ho1 (row_own (cs := [rowV R b15]) (e := 42) (by simp)).src rfl rfl (by simp [rowV, Value.oneCell']) (by omega) (by omega) rfl (fun xa xc xg xo => ?_) | refine TL.append hF 2 rfl rfl rfl ho1 (row_own (cs := [rowV R b15]) (e := 42) (by simp)).src rfl rfl (by simp [rowV, Value.oneCell']) (by omega) (by omega) rfl (fun xa xc xg xo => ?_) | refine TL.append hF 3 rfl rfl rfl ho1 (row_own (cs := [rowV R b15]) (e := 42) (by simp)).src rfl rfl (by simp [rowV, Value.oneCell']) (by omega) (by omega) rfl (fun xa xc xg xo => ?_) | refine TL.append hF 4 rfl rfl rfl ho1 (row_own (cs := [rowV R b15]) (e := 42) (by simp)).src rfl rfl (by simp [rowV, Value.oneCell']) (by omega) (by omega) rfl (fun xa xc xg xo => ?_) | refine TL.append hF 5 rfl rfl rfl ho1 (row_own (cs := [rowV R b15]) (e := 42) (by simp)).src rfl rfl (by simp [rowV, Value.oneCell']) (by omega) (by omega) rfl (fun xa xc xg xo => ?_)
            refine TL.finD ?_
            refine DH.heavy 8 [(20, _, some 7)] (by kernel_rfl) (by kernel_rfl) (by kernel_rfl) (by kernel_rfl) rfl rfl rfl rfl ⟨⟨rfl, rfl, rfl⟩, trivial⟩ (by kernel_rfl) (fun ext => ?_)
            refine TL.buildSlice hF rfl (cs := #[rowV R b20]) (e := 42) (fun w => by kernel_rfl) rfl (fun b21 => ?_)
            refine TL.finD ?_
            refine DH.done [(21, _), (17, _), (16, _), (15, _), (20, _), (19, _), (18, _), (14, _), (13, _)] [_, _, _] (by kernel_rfl) (by kernel_rfl) (by kernel_rfl) (by kernel_rfl) rfl rfl ?_
            first | refine TL.append hF 1 rfl rfl rfl ho2 (row_own (cs := [rowV R b20]) (e := 42) (by simp)).src rfl rfl (by simp [rowV, Value.oneCell']) (by omega) (by omega) rfl (fun ya yc yg yo => ?_) | refine TL.append hF 2 rfl rfl rfl ho2 (row_own (cs := [rowV R b20]) (e := 42) (by simp)).src rfl rfl (by simp [rowV, Value.oneCell']) (by omega) (by omega) rfl (fun ya yc yg yo => ?_) | refine TL.append hF 3 rfl rfl rfl ho2 (row_own (cs := [rowV R b20]) (e := 42) (by simp)).src rfl rfl (by simp [rowV, Value.oneCell']) (by omega) (by omega) rfl (fun ya yc yg yo => ?_) | refine TL.append hF 4 rfl rfl rfl ho2 (row_own (cs := [rowV R b20]) (e := 42) (by simp)).src rfl rfl (by simp [rowV, Value.oneCell']) (by omega) (by omega) rfl (fun ya yc yg yo => ?_) | refine TL.append hF 5 rfl rfl rfl ho2 (row_own (cs := [rowV R b20]) (e := 42) (by simp)).src rfl rfl (by simp [rowV, Value.oneCell']) (by omega) (by omega) rfl (fun ya yc yg yo => ?_)
            refine TL.assign hF rfl rfl ?_
            refine TL.assign hF rfl rfl ?_
            refine TL.nil ?_
            refine TQ.block_n ?_
            refine TQ.then_n ?_
            refine T.region ?_
            refine TL.add hF rfl rfl (by omega) (by omega) rfl ?_
            refine TL.move hF rfl rfl ?_
            refine TL.nil ?_
            first
              | refine TQ.pick [1, 3, 4, 5] [_, _, _, _, _, _] rfl rfl (η' := [(b15, .cells (List.replicate R (.bool false)).toArray 4 (0, 0))] :: [(b20, .cells (List.replicate R (.bool false)).toArray 4 (0, 0))] :: xg :: yg :: (msegs R Z2 bs1 ++ (msegs R Z2 bs2 ++ η))) rfl ?_
              | refine TQ.pick [2, 3, 4, 5] [_, _, _, _, _, _] rfl rfl (η' := [(b15, .cells (List.replicate R (.bool false)).toArray 4 (0, 0))] :: [(b20, .cells (List.replicate R (.bool false)).toArray 4 (0, 0))] :: xg :: yg :: (msegs R Z2 bs1 ++ (msegs R Z2 bs2 ++ η))) rfl ?_
              | refine TQ.pick [3, 1, 4, 5] [_, _, _, _, _, _] rfl rfl (η' := [(b15, .cells (List.replicate R (.bool false)).toArray 4 (0, 0))] :: [(b20, .cells (List.replicate R (.bool false)).toArray 4 (0, 0))] :: xg :: yg :: (msegs R Z2 bs1 ++ (msegs R Z2 bs2 ++ η))) rfl ?_
              | refine TQ.pick [3, 2, 4, 5] [_, _, _, _, _, _] rfl rfl (η' := [(b15, .cells (List.replicate R (.bool false)).toArray 4 (0, 0))] :: [(b20, .cells (List.replicate R (.bool false)).toArray 4 (0, 0))] :: xg :: yg :: (msegs R Z2 bs1 ++ (msegs R Z2 bs2 ++ η))) rfl ?_
            rw [rowC_false]
            refine TQ.hperm (xg :: yg :: (msegs R Z2 (bs1 ++ [b15]) ++ (msegs R Z2 (bs2 ++ [b20]) ++ η))) (by rw [msegs_snoc, msegs_snoc]; exact two_rows) ?_
            exact TQ.round (k + 1, (bs1 ++ [b15], xa, xc, xg), (bs2 ++ [b20], ya, yc, yg)) ⟨by simp only; omega, by simp [hb1], by simp [hb2], by simpa using xo, by simpa using yo⟩ (by simp only; omega) ⟨rfl, rfl, rfl, rfl, rfl, rfl, trivial⟩ rfl
          · refine TL.buildSlice hF rfl (cs := #[rowV R b20]) (e := 42) (fun w => by kernel_rfl) rfl (fun b21 => ?_)
            refine TL.finD ?_
            refine DH.heavy 4 [(13, _, some 0), (16, _, some 3)] (by kernel_rfl) (by kernel_rfl) (by kernel_rfl) (by kernel_rfl) rfl rfl rfl rfl ⟨⟨rfl, rfl, rfl⟩, ⟨rfl, rfl, rfl⟩, trivial⟩ (by kernel_rfl) (fun ext => ?_)
            first | refine TL.append hF 1 rfl rfl rfl ho1 (row_own (cs := [rowV R b15]) (e := 42) (by simp)).src rfl rfl (by simp [rowV, Value.oneCell']) (by omega) (by omega) rfl (fun xa xc xg xo => ?_) | refine TL.append hF 2 rfl rfl rfl ho1 (row_own (cs := [rowV R b15]) (e := 42) (by simp)).src rfl rfl (by simp [rowV, Value.oneCell']) (by omega) (by omega) rfl (fun xa xc xg xo => ?_) | refine TL.append hF 3 rfl rfl rfl ho1 (row_own (cs := [rowV R b15]) (e := 42) (by simp)).src rfl rfl (by simp [rowV, Value.oneCell']) (by omega) (by omega) rfl (fun xa xc xg xo => ?_) | refine TL.append hF 4 rfl rfl rfl ho1 (row_own (cs := [rowV R b15]) (e := 42) (by simp)).src rfl rfl (by simp [rowV, Value.oneCell']) (by omega) (by omega) rfl (fun xa xc xg xo => ?_) | refine TL.append hF 5 rfl rfl rfl ho1 (row_own (cs := [rowV R b15]) (e := 42) (by simp)).src rfl rfl (by simp [rowV, Value.oneCell']) (by omega) (by omega) rfl (fun xa xc xg xo => ?_)
            refine TL.finD ?_
            refine DH.done [(17, _), (21, _), (16, _), (15, _), (20, _), (19, _), (18, _), (14, _), (13, _)] [_, _, _] (by kernel_rfl) (by kernel_rfl) (by kernel_rfl) (by kernel_rfl) rfl rfl ?_
            first | refine TL.append hF 1 rfl rfl rfl ho2 (row_own (cs := [rowV R b20]) (e := 42) (by simp)).src rfl rfl (by simp [rowV, Value.oneCell']) (by omega) (by omega) rfl (fun ya yc yg yo => ?_) | refine TL.append hF 2 rfl rfl rfl ho2 (row_own (cs := [rowV R b20]) (e := 42) (by simp)).src rfl rfl (by simp [rowV, Value.oneCell']) (by omega) (by omega) rfl (fun ya yc yg yo => ?_) | refine TL.append hF 3 rfl rfl rfl ho2 (row_own (cs := [rowV R b20]) (e := 42) (by simp)).src rfl rfl (by simp [rowV, Value.oneCell']) (by omega) (by omega) rfl (fun ya yc yg yo => ?_) | refine TL.append hF 4 rfl rfl rfl ho2 (row_own (cs := [rowV R b20]) (e := 42) (by simp)).src rfl rfl (by simp [rowV, Value.oneCell']) (by omega) (by omega) rfl (fun ya yc yg yo => ?_) | refine TL.append hF 5 rfl rfl rfl ho2 (row_own (cs := [rowV R b20]) (e := 42) (by simp)).src rfl rfl (by simp [rowV, Value.oneCell']) (by omega) (by omega) rfl (fun ya yc yg yo => ?_)
            refine TL.assign hF rfl rfl ?_
            refine TL.assign hF rfl rfl ?_
            refine TL.nil ?_
            refine TQ.block_n ?_
            refine TQ.then_n ?_
            refine T.region ?_
            refine TL.add hF rfl rfl (by omega) (by omega) rfl ?_
            refine TL.move hF rfl rfl ?_
            refine TL.nil ?_
            first
              | refine TQ.pick [1, 3, 4, 5] [_, _, _, _, _, _] rfl rfl (η' := [(b15, .cells (List.replicate R (.bool false)).toArray 4 (0, 0))] :: [(b20, .cells (List.replicate R (.bool false)).toArray 4 (0, 0))] :: xg :: yg :: (msegs R Z2 bs1 ++ (msegs R Z2 bs2 ++ η))) rfl ?_
              | refine TQ.pick [2, 3, 4, 5] [_, _, _, _, _, _] rfl rfl (η' := [(b15, .cells (List.replicate R (.bool false)).toArray 4 (0, 0))] :: [(b20, .cells (List.replicate R (.bool false)).toArray 4 (0, 0))] :: xg :: yg :: (msegs R Z2 bs1 ++ (msegs R Z2 bs2 ++ η))) rfl ?_
              | refine TQ.pick [3, 1, 4, 5] [_, _, _, _, _, _] rfl rfl (η' := [(b15, .cells (List.replicate R (.bool false)).toArray 4 (0, 0))] :: [(b20, .cells (List.replicate R (.bool false)).toArray 4 (0, 0))] :: xg :: yg :: (msegs R Z2 bs1 ++ (msegs R Z2 bs2 ++ η))) rfl ?_
              | refine TQ.pick [3, 2, 4, 5] [_, _, _, _, _, _] rfl rfl (η' := [(b15, .cells (List.replicate R (.bool false)).toArray 4 (0, 0))] :: [(b20, .cells (List.replicate R (.bool false)).toArray 4 (0, 0))] :: xg :: yg :: (msegs R Z2 bs1 ++ (msegs R Z2 bs2 ++ η))) rfl ?_
            rw [rowC_false]
            refine TQ.hperm (xg :: yg :: (msegs R Z2 (bs1 ++ [b15]) ++ (msegs R Z2 (bs2 ++ [b20]) ++ η))) (by rw [msegs_snoc, msegs_snoc]; exact two_rows) ?_
            exact TQ.round (k + 1, (bs1 ++ [b15], xa, xc, xg), (bs2 ++ [b20], ya, yc, yg)) ⟨by simp only; omega, by simp [hb1], by simp [hb2], by simpa using xo, by simpa using yo⟩ (by simp only; omega) ⟨rfl, rfl, rfl, rfl, rfl, rfl, trivial⟩ rfl
        · refine TL.buildSlice hF rfl (cs := #[rowV R b20]) (e := 42) (fun w => by kernel_rfl) rfl (fun b21 => ?_)
          refine TL.finD ?_
          refine DH.heavy 3 [(15, _, some 2)] (by kernel_rfl) (by kernel_rfl) (by kernel_rfl) (by kernel_rfl) rfl rfl rfl rfl ⟨⟨rfl, rfl, rfl⟩, trivial⟩ (by kernel_rfl) (fun ext => ?_)
          refine TL.buildSlice hF rfl (cs := #[rowV R b15]) (e := 42) (fun w => by kernel_rfl) rfl (fun b16 => ?_)
          refine TL.finD ?_
          refine DH.heavy 4 [(13, _, some 0), (16, _, some 3)] (by kernel_rfl) (by kernel_rfl) (by kernel_rfl) (by kernel_rfl) rfl rfl rfl rfl ⟨⟨rfl, rfl, rfl⟩, ⟨rfl, rfl, rfl⟩, trivial⟩ (by kernel_rfl) (fun ext => ?_)
          first | refine TL.append hF 1 rfl rfl rfl ho1 (row_own (cs := [rowV R b15]) (e := 42) (by simp)).src rfl rfl (by simp [rowV, Value.oneCell']) (by omega) (by omega) rfl (fun xa xc xg xo => ?_) | refine TL.append hF 2 rfl rfl rfl ho1 (row_own (cs := [rowV R b15]) (e := 42) (by simp)).src rfl rfl (by simp [rowV, Value.oneCell']) (by omega) (by omega) rfl (fun xa xc xg xo => ?_) | refine TL.append hF 3 rfl rfl rfl ho1 (row_own (cs := [rowV R b15]) (e := 42) (by simp)).src rfl rfl (by simp [rowV, Value.oneCell']) (by omega) (by omega) rfl (fun xa xc xg xo => ?_) | refine TL.append hF 4 rfl rfl rfl ho1 (row_own (cs := [rowV R b15]) (e := 42) (by simp)).src rfl rfl (by simp [rowV, Value.oneCell']) (by omega) (by omega) rfl (fun xa xc xg xo => ?_) | refine TL.append hF 5 rfl rfl rfl ho1 (row_own (cs := [rowV R b15]) (e := 42) (by simp)).src rfl rfl (by simp [rowV, Value.oneCell']) (by omega) (by omega) rfl (fun xa xc xg xo => ?_)
          refine TL.finD ?_
          refine DH.done [(17, _), (16, _), (21, _), (15, _), (20, _), (19, _), (18, _), (14, _), (13, _)] [_, _, _] (by kernel_rfl) (by kernel_rfl) (by kernel_rfl) (by kernel_rfl) rfl rfl ?_
          first | refine TL.append hF 1 rfl rfl rfl ho2 (row_own (cs := [rowV R b20]) (e := 42) (by simp)).src rfl rfl (by simp [rowV, Value.oneCell']) (by omega) (by omega) rfl (fun ya yc yg yo => ?_) | refine TL.append hF 2 rfl rfl rfl ho2 (row_own (cs := [rowV R b20]) (e := 42) (by simp)).src rfl rfl (by simp [rowV, Value.oneCell']) (by omega) (by omega) rfl (fun ya yc yg yo => ?_) | refine TL.append hF 3 rfl rfl rfl ho2 (row_own (cs := [rowV R b20]) (e := 42) (by simp)).src rfl rfl (by simp [rowV, Value.oneCell']) (by omega) (by omega) rfl (fun ya yc yg yo => ?_) | refine TL.append hF 4 rfl rfl rfl ho2 (row_own (cs := [rowV R b20]) (e := 42) (by simp)).src rfl rfl (by simp [rowV, Value.oneCell']) (by omega) (by omega) rfl (fun ya yc yg yo => ?_) | refine TL.append hF 5 rfl rfl rfl ho2 (row_own (cs := [rowV R b20]) (e := 42) (by simp)).src rfl rfl (by simp [rowV, Value.oneCell']) (by omega) (by omega) rfl (fun ya yc yg yo => ?_)
          refine TL.assign hF rfl rfl ?_
          refine TL.assign hF rfl rfl ?_
          refine TL.nil ?_
          refine TQ.block_n ?_
          refine TQ.then_n ?_
          refine T.region ?_
          refine TL.add hF rfl rfl (by omega) (by omega) rfl ?_
          refine TL.move hF rfl rfl ?_
          refine TL.nil ?_
          first
            | refine TQ.pick [1, 3, 4, 5] [_, _, _, _, _, _] rfl rfl (η' := [(b15, .cells (List.replicate R (.bool false)).toArray 4 (0, 0))] :: [(b20, .cells (List.replicate R (.bool false)).toArray 4 (0, 0))] :: xg :: yg :: (msegs R Z2 bs1 ++ (msegs R Z2 bs2 ++ η))) rfl ?_
            | refine TQ.pick [2, 3, 4, 5] [_, _, _, _, _, _] rfl rfl (η' := [(b15, .cells (List.replicate R (.bool false)).toArray 4 (0, 0))] :: [(b20, .cells (List.replicate R (.bool false)).toArray 4 (0, 0))] :: xg :: yg :: (msegs R Z2 bs1 ++ (msegs R Z2 bs2 ++ η))) rfl ?_
            | refine TQ.pick [3, 1, 4, 5] [_, _, _, _, _, _] rfl rfl (η' := [(b15, .cells (List.replicate R (.bool false)).toArray 4 (0, 0))] :: [(b20, .cells (List.replicate R (.bool false)).toArray 4 (0, 0))] :: xg :: yg :: (msegs R Z2 bs1 ++ (msegs R Z2 bs2 ++ η))) rfl ?_
            | refine TQ.pick [3, 2, 4, 5] [_, _, _, _, _, _] rfl rfl (η' := [(b15, .cells (List.replicate R (.bool false)).toArray 4 (0, 0))] :: [(b20, .cells (List.replicate R (.bool false)).toArray 4 (0, 0))] :: xg :: yg :: (msegs R Z2 bs1 ++ (msegs R Z2 bs2 ++ η))) rfl ?_
          rw [rowC_false]
          refine TQ.hperm (xg :: yg :: (msegs R Z2 (bs1 ++ [b15]) ++ (msegs R Z2 (bs2 ++ [b20]) ++ η))) (by rw [msegs_snoc, msegs_snoc]; exact two_rows) ?_
          exact TQ.round (k + 1, (bs1 ++ [b15], xa, xc, xg), (bs2 ++ [b20], ya, yc, yg)) ⟨by simp only; omega, by simp [hb1], by simp [hb2], by simpa using xo, by simpa using yo⟩ (by simp only; omega) ⟨rfl, rfl, rfl, rfl, rfl, rfl, trivial⟩ rfl
      · refine TL.buildSlice hF rfl (cs := #[rowV R b20]) (e := 42) (fun w => by kernel_rfl) rfl (fun b21 => ?_)
        refine TL.finD ?_
        refine DH.heavy 2 [(14, _, some 1)] (by kernel_rfl) (by kernel_rfl) (by kernel_rfl) (by kernel_rfl) rfl rfl rfl rfl ⟨⟨rfl, rfl, rfl⟩, trivial⟩ (by kernel_rfl) (fun ext => ?_)
        refine TL.makeSlice hF (k := R) rfl rfl rfl (by omega) (by omega) rfl (fun b15 => ?_)
        refine TL.finD ?_
        refine DH.heavy 3 [(15, _, some 2)] (by kernel_rfl) (by kernel_rfl) (by kernel_rfl) (by kernel_rfl) rfl rfl rfl rfl ⟨⟨rfl, rfl, rfl⟩, trivial⟩ (by kernel_rfl) (fun ext => ?_)
        refine TL.buildSlice hF rfl (cs := #[rowV R b15]) (e := 42) (fun w => by kernel_rfl) rfl (fun b16 => ?_)
        refine TL.finD ?_
        refine DH.heavy 4 [(13, _, some 0), (16, _, some 3)] (by kernel_rfl) (by kernel_rfl) (by kernel_rfl) (by kernel_rfl) rfl rfl rfl rfl ⟨⟨rfl, rfl, rfl⟩, ⟨rfl, rfl, rfl⟩, trivial⟩ (by kernel_rfl) (fun ext => ?_)
        first | refine TL.append hF 1 rfl rfl rfl ho1 (row_own (cs := [rowV R b15]) (e := 42) (by simp)).src rfl rfl (by simp [rowV, Value.oneCell']) (by omega) (by omega) rfl (fun xa xc xg xo => ?_) | refine TL.append hF 2 rfl rfl rfl ho1 (row_own (cs := [rowV R b15]) (e := 42) (by simp)).src rfl rfl (by simp [rowV, Value.oneCell']) (by omega) (by omega) rfl (fun xa xc xg xo => ?_) | refine TL.append hF 3 rfl rfl rfl ho1 (row_own (cs := [rowV R b15]) (e := 42) (by simp)).src rfl rfl (by simp [rowV, Value.oneCell']) (by omega) (by omega) rfl (fun xa xc xg xo => ?_) | refine TL.append hF 4 rfl rfl rfl ho1 (row_own (cs := [rowV R b15]) (e := 42) (by simp)).src rfl rfl (by simp [rowV, Value.oneCell']) (by omega) (by omega) rfl (fun xa xc xg xo => ?_) | refine TL.append hF 5 rfl rfl rfl ho1 (row_own (cs := [rowV R b15]) (e := 42) (by simp)).src rfl rfl (by simp [rowV, Value.oneCell']) (by omega) (by omega) rfl (fun xa xc xg xo => ?_)
        refine TL.finD ?_
        refine DH.done [(17, _), (16, _), (15, _), (21, _), (20, _), (19, _), (18, _), (14, _), (13, _)] [_, _, _] (by kernel_rfl) (by kernel_rfl) (by kernel_rfl) (by kernel_rfl) rfl rfl ?_
        first | refine TL.append hF 1 rfl rfl rfl ho2 (row_own (cs := [rowV R b20]) (e := 42) (by simp)).src rfl rfl (by simp [rowV, Value.oneCell']) (by omega) (by omega) rfl (fun ya yc yg yo => ?_) | refine TL.append hF 2 rfl rfl rfl ho2 (row_own (cs := [rowV R b20]) (e := 42) (by simp)).src rfl rfl (by simp [rowV, Value.oneCell']) (by omega) (by omega) rfl (fun ya yc yg yo => ?_) | refine TL.append hF 3 rfl rfl rfl ho2 (row_own (cs := [rowV R b20]) (e := 42) (by simp)).src rfl rfl (by simp [rowV, Value.oneCell']) (by omega) (by omega) rfl (fun ya yc yg yo => ?_) | refine TL.append hF 4 rfl rfl rfl ho2 (row_own (cs := [rowV R b20]) (e := 42) (by simp)).src rfl rfl (by simp [rowV, Value.oneCell']) (by omega) (by omega) rfl (fun ya yc yg yo => ?_) | refine TL.append hF 5 rfl rfl rfl ho2 (row_own (cs := [rowV R b20]) (e := 42) (by simp)).src rfl rfl (by simp [rowV, Value.oneCell']) (by omega) (by omega) rfl (fun ya yc yg yo => ?_)
        refine TL.assign hF rfl rfl ?_
        refine TL.assign hF rfl rfl ?_
        refine TL.nil ?_
        refine TQ.block_n ?_
        refine TQ.then_n ?_
        refine T.region ?_
        refine TL.add hF rfl rfl (by omega) (by omega) rfl ?_
        refine TL.move hF rfl rfl ?_
        refine TL.nil ?_
        first
          | refine TQ.pick [1, 3, 4, 5] [_, _, _, _, _, _] rfl rfl (η' := [(b15, .cells (List.replicate R (.bool false)).toArray 4 (0, 0))] :: [(b20, .cells (List.replicate R (.bool false)).toArray 4 (0, 0))] :: xg :: yg :: (msegs R Z2 bs1 ++ (msegs R Z2 bs2 ++ η))) rfl ?_
          | refine TQ.pick [2, 3, 4, 5] [_, _, _, _, _, _] rfl rfl (η' := [(b15, .cells (List.replicate R (.bool false)).toArray 4 (0, 0))] :: [(b20, .cells (List.replicate R (.bool false)).toArray 4 (0, 0))] :: xg :: yg :: (msegs R Z2 bs1 ++ (msegs R Z2 bs2 ++ η))) rfl ?_
          | refine TQ.pick [3, 1, 4, 5] [_, _, _, _, _, _] rfl rfl (η' := [(b15, .cells (List.replicate R (.bool false)).toArray 4 (0, 0))] :: [(b20, .cells (List.replicate R (.bool false)).toArray 4 (0, 0))] :: xg :: yg :: (msegs R Z2 bs1 ++ (msegs R Z2 bs2 ++ η))) rfl ?_
          | refine TQ.pick [3, 2, 4, 5] [_, _, _, _, _, _] rfl rfl (η' := [(b15, .cells (List.replicate R (.bool false)).toArray 4 (0, 0))] :: [(b20, .cells (List.replicate R (.bool false)).toArray 4 (0, 0))] :: xg :: yg :: (msegs R Z2 bs1 ++ (msegs R Z2 bs2 ++ η))) rfl ?_
        rw [rowC_false]
        refine TQ.hperm (xg :: yg :: (msegs R Z2 (bs1 ++ [b15]) ++ (msegs R Z2 (bs2 ++ [b20]) ++ η))) (by rw [msegs_snoc, msegs_snoc]; exact two_rows) ?_
        exact TQ.round (k + 1, (bs1 ++ [b15], xa, xc, xg), (bs2 ++ [b20], ya, yc, yg)) ⟨by simp only; omega, by simp [hb1], by simp [hb2], by simpa using xo, by simpa using yo⟩ (by simp only; omega) ⟨rfl, rfl, rfl, rfl, rfl, rfl, trivial⟩ rfl
  · refine T.exit ?_
    refine TQ.then_x ?_
    refine TQ.then_x ?_
    refine TQ.block_x ?_
    refine TQ.then_n ?_
    refine T.seq ?_
    refine T.seq ?_
    refine T.region ?_
    refine TL.move hF rfl rfl ?_
    refine TL.len hF rfl rfl ?_
    refine TL.move hF rfl rfl ?_
    refine TL.nil ?_
    refine TQ.then_n ?_
    refine T.block ?_
    have hkR : R = k := by have h : ¬ (k : Int) < R := ht12; omega
    subst hkR
    refine T.hperm (msegs R (UM rs 0 0 false) bs1 ++ (msegs R (UM rs 0 0 true) bs2 ++ g1 :: g2 :: η)) (by rw [UM_zero, UM_zero]; exact fronts) ?_
    refine T.loop (ι := Nat) (fun i => i ≤ rs.length) (fun i => [(0, .int .i64 (R : Int)), (1, .slice p rs.length c), (4, .slice a1 R c1), (5, .slice a2 R c2), (24, .slice p rs.length c), (25, .int .i64 (rs.length : Int)), (26, .int .i64 (i : Int))]) (fun i => msegs R (UM rs i 0 false) bs1 ++ (msegs R (UM rs i 0 true) bs2 ++ g1 :: g2 :: η)) (fun i => rs.length - i) 0 (Nat.zero_le _) ⟨rfl, rfl, rfl, rfl, rfl, rfl, rfl, trivial⟩ rfl ?_
    rintro q hq
    refine T.seq ?_
    refine T.region ?_
    refine TL.bin hF rfl rfl rfl rfl ?_
    refine TL.nil ?_
    refine TQ.then_n ?_
    refine T.seq ?_
    first | refine T.cond_d rfl (fun ht27 => ?_) (fun ht27 => ?_) | refine T.cond _ rfl (fun ht27 => ?_) (fun ht27 => ?_)
    · refine T.skip ?_
      refine TQ.then_n ?_
      refine T.seq ?_
      refine T.block ?_
      refine T.seq ?_
      refine T.region ?_
      refine TL.indexAddr hF rfl rfl (hr.ad (by omega)) (by omega) (by omega) rfl ?_
      have hql : q < rs.length := by have h : (q : Int) < rs.length := ht27; omega
      have hbq := hbl rs[q] (List.getElem_mem _)
      obtain ⟨⟨h, hh, hhR⟩, hbr⟩ := hg rs[q] (List.getElem_mem _)
      refine TL.loadA hF rs[q].cells rfl rfl (hr.ro.atA hql) rfl ?_
      refine TL.alloc hF rfl (fun b7 => ?_)
      refine TL.storeAI hF rs[q].cells 0 rfl rfl rfl rfl (by simp [RuleD.cells, Value.oneCell']) (by simp [Value.cells, cells_len]) ?_
      refine TL.nil ?_
      refine TQ.then_n ?_
      refine T.seq ?_
      refine T.region ?_
      refine TL.fieldAddr hF rfl rfl ?_
      refine TL.fieldAddr hF rfl rfl ?_
      refine TL.load hF rfl (own_list (i := 0) (cs := rs[q].cells) rfl 2 _ rfl) rfl ?_
      refine TL.len hF rfl rfl ?_
      refine TL.move hF rfl rfl ?_
      refine TL.nil ?_
      refine TQ.then_n ?_
      refine T.block ?_
      refine T.loop (ι := Nat) (fun j => j ≤ rs[q].body.length) (fun j => [(0, .int .i64 (R : Int)), (1, .slice p rs.length c), (4, .slice a1 R c1), (5, .slice a2 R c2), (24, .slice p rs.length c), (25, .int .i64 (rs.length : Int)), (26, .int .i64 (q : Int)), (7, .pointer (some ⟨b7, 0, none⟩)), (32, .slice rs[q].ba rs[q].body.length rs[q].bc), (33, .int .i64 (rs[q].body.length : Int)), (34, .int .i64 (j : Int))]) (fun j => [(b7, .cells rs[q].cells.toArray 53 (0, 0))] :: (msegs R (UM rs q j false) bs1 ++ (msegs R (UM rs q j true) bs2 ++ g1 :: g2 :: η))) (fun j => rs[q].body.length - j) 0 (Nat.zero_le _) ⟨rfl, rfl, rfl, rfl, rfl, rfl, rfl, rfl, rfl, rfl, rfl, trivial⟩ rfl ?_
      rintro j hj
      refine T.seq ?_
      refine T.region ?_
      refine TL.bin hF rfl rfl rfl rfl ?_
      refine TL.nil ?_
      refine TQ.then_n ?_
      refine T.seq ?_
      first | refine T.cond_d rfl (fun ht35 => ?_) (fun ht35 => ?_) | refine T.cond _ rfl (fun ht35 => ?_) (fun ht35 => ?_)
      · refine T.skip ?_
        refine TQ.then_n ?_
        refine T.seq ?_
        refine T.block ?_
        refine T.seq ?_
        refine T.region ?_
        refine TL.indexAddr hF rfl rfl (hr.bad hql (by omega)) (by omega) (by omega) rfl ?_
        have hjl : j < rs[q].body.length := by have h : (j : Int) < rs[q].body.length := ht35; omega
        obtain ⟨b, hb, hbR⟩ := hbr rs[q].body[j] (List.getElem_mem _)
        refine TL.loadA hF rs[q].body[j].cells rfl rfl (hr.ro.batA hql hjl) rfl ?_
        refine TL.alloc hF rfl (fun b9 => ?_)
        refine TL.storeAI hF rs[q].body[j].cells 0 rfl rfl rfl rfl (by simp [AtomD.cells, Value.oneCell']) (by simp [Value.cells, acells_len]) ?_
        refine TL.nil ?_
        refine TQ.then_n ?_
        refine T.seq ?_
        refine T.draw ?_
        refine DR.stepV [_] rfl [(4, _, none)] rfl rfl ⟨⟨rfl, by kernel_rfl⟩, trivial⟩ (fun ext => TL.move hF rfl rfl TL.fin) ?_
        refine DR.stepV [_, _] rfl [(7, _, none)] rfl rfl ⟨⟨rfl, by kernel_rfl⟩, trivial⟩ (fun ext => TL.fieldAddr hF rfl rfl TL.fin) ?_
        refine DR.stepV [_, _, _] rfl [(39, _, some 1)] rfl rfl ⟨⟨rfl, rfl, rfl⟩, trivial⟩ (fun ext => TL.load hF rfl (v := .int .i64 (h : Int)) (by rw [← hh]; exact own_list (i := 1) (cs := rs[q].cells) rfl 0 _ rfl) rfl TL.fin) ?_
        refine DR.stepV [_, _, _, _] rfl [(38, _, some 0), (40, _, some 2)] rfl rfl ⟨⟨rfl, rfl, rfl⟩, ⟨rfl, rfl, rfl⟩, trivial⟩ (fun ext => TL.indexAddr hF rfl rfl (osl_ad ho1 (by omega)) (by omega) (by omega) rfl TL.fin) ?_
        refine DR.stepV [_, _, _, _, _] rfl [(41, _, some 3)] rfl rfl ⟨⟨rfl, rfl, rfl⟩, trivial⟩ (fun ext => TL.load hF rfl (rowAt hb1 ho1 (by simp) hhR) rfl TL.fin) ?_
        refine DR.stepV [_, _, _, _, _, _] rfl [(9, _, none)] rfl rfl ⟨⟨rfl, by kernel_rfl⟩, trivial⟩ (fun ext => TL.fieldAddr hF rfl rfl TL.fin) ?_
        refine DR.stepV [_, _, _, _, _, _, _] rfl [(43, _, some 5)] rfl rfl ⟨⟨rfl, rfl, rfl⟩, trivial⟩ (fun ext => TL.load hF rfl (v := .int .i64 (b : Int)) (by rw [← hb]; exact own_list (i := 0) (cs := rs[q].body[j].cells) rfl 0 _ rfl) rfl TL.fin) ?_
        refine DR.done [(44, _), (43, _), (42, _), (41, _), (40, _), (39, _), (38, _)] [_, _] mixed (by kernel_rfl) (by kernel_rfl) (by kernel_rfl) rfl rfl ?_
        refine TL.indexAddr hF rfl rfl ⟨_, rfl, rfl⟩ (by omega) (by omega) rfl ?_
        refine TL.storeI hF (2 + h) rfl rfl (get1 (by omega)) rfl (by simp [rowC_len]; omega) ?_
        refine TL.heap (put1 (j := b) (by omega) (by simp)) ?_
        refine TL.nil ?_
        refine TQ.then_n ?_
        cases hcv : UM rs q j true h b
        · refine T.draw ?_
          refine DR.stepV [_] rfl [(5, _, none)] rfl rfl ⟨⟨rfl, by kernel_rfl⟩, trivial⟩ (fun ext => TL.move hF rfl rfl TL.fin) ?_
          refine DR.stepV [_, _] rfl [(7, _, none)] rfl rfl ⟨⟨rfl, by kernel_rfl⟩, trivial⟩ (fun ext => TL.fieldAddr hF rfl rfl TL.fin) ?_
          refine DR.stepV [_, _, _] rfl [(47, _, some 1)] rfl rfl ⟨⟨rfl, rfl, rfl⟩, trivial⟩ (fun ext => TL.load hF rfl (v := .int .i64 (h : Int)) (by rw [← hh]; exact own_list (i := 1) (cs := rs[q].cells) rfl 0 _ rfl) rfl TL.fin) ?_
          refine DR.stepV [_, _, _, _] rfl [(46, _, some 0), (48, _, some 2)] rfl rfl ⟨⟨rfl, rfl, rfl⟩, ⟨rfl, rfl, rfl⟩, trivial⟩ (fun ext => TL.indexAddr hF rfl rfl (osl_ad ho2 (by omega)) (by omega) (by omega) rfl TL.fin) ?_
          refine DR.stepV [_, _, _, _, _] rfl [(49, _, some 3)] rfl rfl ⟨⟨rfl, rfl, rfl⟩, trivial⟩ (fun ext => TL.load hF rfl (rowAt hb2 ho2 (by simp) hhR) rfl TL.fin) ?_
          refine DR.stepV [_, _, _, _, _, _] rfl [(9, _, none)] rfl rfl ⟨⟨rfl, by kernel_rfl⟩, trivial⟩ (fun ext => TL.fieldAddr hF rfl rfl TL.fin) ?_
          refine DR.stepV [_, _, _, _, _, _, _] rfl [(51, _, some 5)] rfl rfl ⟨⟨rfl, rfl, rfl⟩, trivial⟩ (fun ext => TL.load hF rfl (v := .int .i64 (b : Int)) (by rw [← hb]; exact own_list (i := 0) (cs := rs[q].body[j].cells) rfl 0 _ rfl) rfl TL.fin) ?_
          refine DR.stepV [_, _, _, _, _, _, _, _] rfl [(5, _, none)] rfl rfl ⟨⟨rfl, by kernel_rfl⟩, trivial⟩ (fun ext => TL.move hF rfl rfl TL.fin) ?_
          refine DR.stepV [_, _, _, _, _, _, _, _, _] rfl [(7, _, none)] rfl rfl ⟨⟨rfl, by kernel_rfl⟩, trivial⟩ (fun ext => TL.fieldAddr hF rfl rfl TL.fin) ?_
          refine DR.stepV [_, _, _, _, _, _, _, _, _, _] rfl [(54, _, some 8)] rfl rfl ⟨⟨rfl, rfl, rfl⟩, trivial⟩ (fun ext => TL.load hF rfl (v := .int .i64 (h : Int)) (by rw [← hh]; exact own_list (i := 1) (cs := rs[q].cells) rfl 0 _ rfl) rfl TL.fin) ?_
          refine DR.stepV [_, _, _, _, _, _, _, _, _, _, _] rfl [(53, _, some 7), (55, _, some 9)] rfl rfl ⟨⟨rfl, rfl, rfl⟩, ⟨rfl, rfl, rfl⟩, trivial⟩ (fun ext => TL.indexAddr hF rfl rfl (osl_ad ho2 (by omega)) (by omega) (by omega) rfl TL.fin) ?_
          refine DR.stepV [_, _, _, _, _, _, _, _, _, _, _, _] rfl [(56, _, some 10)] rfl rfl ⟨⟨rfl, rfl, rfl⟩, trivial⟩ (fun ext => TL.load hF rfl (rowAt hb2 ho2 (by simp) hhR) rfl TL.fin) ?_
          refine DR.stepV [_, _, _, _, _, _, _, _, _, _, _, _, _] rfl [(9, _, none)] rfl rfl ⟨⟨rfl, by kernel_rfl⟩, trivial⟩ (fun ext => TL.fieldAddr hF rfl rfl TL.fin) ?_
          refine DR.stepV [_, _, _, _, _, _, _, _, _, _, _, _, _, _] rfl [(58, _, some 12)] rfl rfl ⟨⟨rfl, rfl, rfl⟩, trivial⟩ (fun ext => TL.load hF rfl (v := .int .i64 (b : Int)) (by rw [← hb]; exact own_list (i := 0) (cs := rs[q].body[j].cells) rfl 0 _ rfl) rfl TL.fin) ?_
          refine DR.stepV [_, _, _, _, _, _, _, _, _, _, _, _, _, _, _] rfl [(57, _, some 11), (59, _, some 13)] rfl rfl ⟨⟨rfl, rfl, rfl⟩, ⟨rfl, rfl, rfl⟩, trivial⟩ (fun ext => TL.indexAddr hF rfl rfl ⟨_, rfl, rfl⟩ (by omega) (by omega) rfl TL.fin) ?_
          refine DR.stepV [_, _, _, _, _, _, _, _, _, _, _, _, _, _, _, _] rfl [(60, _, some 14)] rfl rfl ⟨⟨rfl, rfl, rfl⟩, trivial⟩ (fun ext => TL.load hF rfl (show At S w0 _ (sAt (some ⟨bs2.getD h 0, 0, none⟩) (b * 1)) (.bool (UM rs q j true h b)) by rw [Nat.mul_one]; exact (row_own (e := 4) (List.mem_cons_of_mem _ (List.mem_cons_of_mem _ (List.mem_append_right _ (List.mem_append_left _ (msegs_mem (by omega))))))).cell b _ (rowC_get hbR)) rfl TL.fin) ?_
          refine DR.stepV [_, _, _, _, _, _, _, _, _, _, _, _, _, _, _, _, _] rfl [(61, _, some 15)] rfl rfl ⟨⟨rfl, rfl, rfl⟩, trivial⟩ (fun ext => TL.move hF rfl rfl TL.fin) ?_
          refine DR.stepV [_, _, _, _, _, _, _, _, _, _, _, _, _, _, _, _, _, _] rfl [(9, _, none), (62, _, some 16)] rfl rfl ⟨⟨rfl, by kernel_rfl⟩, ⟨rfl, rfl, rfl⟩, trivial⟩ (fun ext => TL.on rfl rfl rfl hcv <| TL.fieldAddr hF rfl rfl TL.fin) ?_
          refine DR.stepV [_, _, _, _, _, _, _, _, _, _, _, _, _, _, _, _, _, _, _] rfl [(63, _, some 17), (62, _, some 16)] rfl rfl ⟨⟨rfl, rfl, rfl⟩, ⟨rfl, rfl, rfl⟩, trivial⟩ (fun ext => TL.on rfl rfl rfl hcv <| TL.load hF rfl (own_list (i := 0) (cs := rs[q].body[j].cells) rfl 1 _ rfl) rfl TL.fin) ?_
          refine DR.stepV [_, _, _, _, _, _, _, _, _, _, _, _, _, _, _, _, _, _, _, _] rfl [(62, _, some 16), (64, _, some 18)] rfl rfl ⟨⟨rfl, rfl, rfl⟩, ⟨rfl, rfl, rfl⟩, trivial⟩ (fun ext => TL.pickF hF rfl hcv rfl rfl TL.fin) ?_
          refine DR.done [(65, _), (64, _), (63, _), (62, _), (61, _), (60, _), (59, _), (58, _), (57, _), (56, _), (55, _), (54, _), (53, _), (52, _), (51, _), (50, _), (49, _), (48, _), (47, _), (46, _)] [_, _] mixed (by kernel_rfl) (by kernel_rfl) (by kernel_rfl) rfl rfl ?_
          refine TL.indexAddr hF rfl rfl ⟨_, rfl, rfl⟩ (by omega) (by omega) rfl ?_
          refine TL.storeI hF (2 + ((msegs R (updM (UM rs q j false) h b true) bs1).length + h)) rfl rfl (get2 (by omega)) rfl (by simp [rowC_len]; omega) ?_
          refine TL.heap (put2 (j := b) (by omega) (by simp)) ?_
          refine TL.nil ?_
          refine TQ.block_n ?_
          refine TQ.then_n ?_
          refine T.region ?_
          refine TL.add hF rfl rfl (by omega) (by omega) rfl ?_
          refine TL.move hF rfl rfl ?_
          refine TL.nil ?_
          rw [UM_upd hql hjl hh hb false true (by simp), UM_upd hql hjl hh hb true _ (by rw [hcv]; simp)]
          refine TQ.pop ?_
          exact TQ.round (j + 1) (by omega) (by omega) ⟨rfl, rfl, rfl, rfl, rfl, rfl, rfl, rfl, rfl, rfl, rfl, trivial⟩ rfl
        · refine T.draw ?_
          refine DR.stepV [_] rfl [(5, _, none)] rfl rfl ⟨⟨rfl, by kernel_rfl⟩, trivial⟩ (fun ext => TL.move hF rfl rfl TL.fin) ?_
          refine DR.stepV [_, _] rfl [(7, _, none)] rfl rfl ⟨⟨rfl, by kernel_rfl⟩, trivial⟩ (fun ext => TL.fieldAddr hF rfl rfl TL.fin) ?_
          refine DR.stepV [_, _, _] rfl [(47, _, some 1)] rfl rfl ⟨⟨rfl, rfl, rfl⟩, trivial⟩ (fun ext => TL.load hF rfl (v := .int .i64 (h : Int)) (by rw [← hh]; exact own_list (i := 1) (cs := rs[q].cells) rfl 0 _ rfl) rfl TL.fin) ?_
          refine DR.stepV [_, _, _, _] rfl [(46, _, some 0), (48, _, some 2)] rfl rfl ⟨⟨rfl, rfl, rfl⟩, ⟨rfl, rfl, rfl⟩, trivial⟩ (fun ext => TL.indexAddr hF rfl rfl (osl_ad ho2 (by omega)) (by omega) (by omega) rfl TL.fin) ?_
          refine DR.stepV [_, _, _, _, _] rfl [(49, _, some 3)] rfl rfl ⟨⟨rfl, rfl, rfl⟩, trivial⟩ (fun ext => TL.load hF rfl (rowAt hb2 ho2 (by simp) hhR) rfl TL.fin) ?_
          refine DR.stepV [_, _, _, _, _, _] rfl [(9, _, none)] rfl rfl ⟨⟨rfl, by kernel_rfl⟩, trivial⟩ (fun ext => TL.fieldAddr hF rfl rfl TL.fin) ?_
          refine DR.stepV [_, _, _, _, _, _, _] rfl [(51, _, some 5)] rfl rfl ⟨⟨rfl, rfl, rfl⟩, trivial⟩ (fun ext => TL.load hF rfl (v := .int .i64 (b : Int)) (by rw [← hb]; exact own_list (i := 0) (cs := rs[q].body[j].cells) rfl 0 _ rfl) rfl TL.fin) ?_
          refine DR.stepV [_, _, _, _, _, _, _, _] rfl [(5, _, none)] rfl rfl ⟨⟨rfl, by kernel_rfl⟩, trivial⟩ (fun ext => TL.move hF rfl rfl TL.fin) ?_
          refine DR.stepV [_, _, _, _, _, _, _, _, _] rfl [(7, _, none)] rfl rfl ⟨⟨rfl, by kernel_rfl⟩, trivial⟩ (fun ext => TL.fieldAddr hF rfl rfl TL.fin) ?_
          refine DR.stepV [_, _, _, _, _, _, _, _, _, _] rfl [(54, _, some 8)] rfl rfl ⟨⟨rfl, rfl, rfl⟩, trivial⟩ (fun ext => TL.load hF rfl (v := .int .i64 (h : Int)) (by rw [← hh]; exact own_list (i := 1) (cs := rs[q].cells) rfl 0 _ rfl) rfl TL.fin) ?_
          refine DR.stepV [_, _, _, _, _, _, _, _, _, _, _] rfl [(53, _, some 7), (55, _, some 9)] rfl rfl ⟨⟨rfl, rfl, rfl⟩, ⟨rfl, rfl, rfl⟩, trivial⟩ (fun ext => TL.indexAddr hF rfl rfl (osl_ad ho2 (by omega)) (by omega) (by omega) rfl TL.fin) ?_
          refine DR.stepV [_, _, _, _, _, _, _, _, _, _, _, _] rfl [(56, _, some 10)] rfl rfl ⟨⟨rfl, rfl, rfl⟩, trivial⟩ (fun ext => TL.load hF rfl (rowAt hb2 ho2 (by simp) hhR) rfl TL.fin) ?_
          refine DR.stepV [_, _, _, _, _, _, _, _, _, _, _, _, _] rfl [(9, _, none)] rfl rfl ⟨⟨rfl, by kernel_rfl⟩, trivial⟩ (fun ext => TL.fieldAddr hF rfl rfl TL.fin) ?_
          refine DR.stepV [_, _, _, _, _, _, _, _, _, _, _, _, _, _] rfl [(58, _, some 12)] rfl rfl ⟨⟨rfl, rfl, rfl⟩, trivial⟩ (fun ext => TL.load hF rfl (v := .int .i64 (b : Int)) (by rw [← hb]; exact own_list (i := 0) (cs := rs[q].body[j].cells) rfl 0 _ rfl) rfl TL.fin) ?_
          refine DR.stepV [_, _, _, _, _, _, _, _, _, _, _, _, _, _, _] rfl [(57, _, some 11), (59, _, some 13)] rfl rfl ⟨⟨rfl, rfl, rfl⟩, ⟨rfl, rfl, rfl⟩, trivial⟩ (fun ext => TL.indexAddr hF rfl rfl ⟨_, rfl, rfl⟩ (by omega) (by omega) rfl TL.fin) ?_
          refine DR.stepV [_, _, _, _, _, _, _, _, _, _, _, _, _, _, _, _] rfl [(60, _, some 14)] rfl rfl ⟨⟨rfl, rfl, rfl⟩, trivial⟩ (fun ext => TL.load hF rfl (show At S w0 _ (sAt (some ⟨bs2.getD h 0, 0, none⟩) (b * 1)) (.bool (UM rs q j true h b)) by rw [Nat.mul_one]; exact (row_own (e := 4) (List.mem_cons_of_mem _ (List.mem_cons_of_mem _ (List.mem_append_right _ (List.mem_append_left _ (msegs_mem (by omega))))))).cell b _ (rowC_get hbR)) rfl TL.fin) ?_
          refine DR.stepV [_, _, _, _, _, _, _, _, _, _, _, _, _, _, _, _, _] rfl [(61, _, some 15)] rfl rfl ⟨⟨rfl, rfl, rfl⟩, trivial⟩ (fun ext => TL.move hF rfl rfl TL.fin) ?_
          refine DR.stepV [_, _, _, _, _, _, _, _, _, _, _, _, _, _, _, _, _, _] rfl [(9, _, none), (62, _, some 16)] rfl rfl ⟨⟨rfl, by kernel_rfl⟩, ⟨rfl, rfl, rfl⟩, trivial⟩ (fun ext => TL.off hF rfl rfl rfl hcv rfl TL.fin) ?_
          refine DR.stepV [_, _, _, _, _, _, _, _, _, _, _, _, _, _, _, _, _, _, _] rfl [(63, _, some 17), (62, _, some 16)] rfl rfl ⟨⟨rfl, rfl, rfl⟩, ⟨rfl, rfl, rfl⟩, trivial⟩ (fun ext => TL.off hF rfl rfl rfl hcv rfl TL.fin) ?_
          refine DR.stepV [_, _, _, _, _, _, _, _, _, _, _, _, _, _, _, _, _, _, _, _] rfl [(62, _, some 16), (64, _, some 18)] rfl rfl ⟨⟨rfl, rfl, rfl⟩, ⟨rfl, rfl, rfl⟩, trivial⟩ (fun ext => TL.pickT hF rfl hcv rfl rfl TL.fin) ?_
          refine DR.done [(65, _), (64, _), (63, _), (62, _), (61, _), (60, _), (59, _), (58, _), (57, _), (56, _), (55, _), (54, _), (53, _), (52, _), (51, _), (50, _), (49, _), (48, _), (47, _), (46, _)] [_, _] mixed (by kernel_rfl) (by kernel_rfl) (by kernel_rfl) rfl rfl ?_
          refine TL.indexAddr hF rfl rfl ⟨_, rfl, rfl⟩ (by omega) (by omega) rfl ?_
          refine TL.storeI hF (2 + ((msegs R (updM (UM rs q j false) h b true) bs1).length + h)) rfl rfl (get2 (by omega)) rfl (by simp [rowC_len]; omega) ?_
          refine TL.heap (put2 (j := b) (by omega) (by simp)) ?_
          refine TL.nil ?_
          refine TQ.block_n ?_
          refine TQ.then_n ?_
          refine T.region ?_
          refine TL.add hF rfl rfl (by omega) (by omega) rfl ?_
          refine TL.move hF rfl rfl ?_
          refine TL.nil ?_
          rw [UM_upd hql hjl hh hb false true (by simp), UM_upd hql hjl hh hb true _ (by rw [hcv]; simp)]
          refine TQ.pop ?_
          exact TQ.round (j + 1) (by omega) (by omega) ⟨rfl, rfl, rfl, rfl, rfl, rfl, rfl, rfl, rfl, rfl, rfl, trivial⟩ rfl
      · refine T.exit ?_
        refine TQ.then_x ?_
        refine TQ.then_x ?_
        refine TQ.block_x ?_
        refine TQ.block_n ?_
        refine TQ.then_n ?_
        refine T.region ?_
        refine TL.add hF rfl rfl (by omega) (by omega) rfl ?_
        refine TL.move hF rfl rfl ?_
        refine TL.nil ?_
        have hjl : j = rs[q].body.length := by have h : ¬ (j : Int) < rs[q].body.length := ht35; omega
        subst hjl
        rw [UM_full hql, UM_full hql]
        refine TQ.pop ?_
        exact TQ.round (q + 1) (by omega) (by omega) ⟨rfl, rfl, rfl, rfl, rfl, rfl, rfl, trivial⟩ rfl
    · refine T.exit ?_
      refine TQ.then_x ?_
      refine TQ.then_x ?_
      refine TQ.block_x ?_
      refine TQ.then_n ?_
      refine T.seq ?_
      refine T.region ?_
      refine TL.move hF rfl rfl ?_
      refine TL.move hF rfl rfl ?_
      refine TL.assign hF rfl rfl ?_
      refine TL.assign hF rfl rfl ?_
      refine TL.nil ?_
      refine TQ.then_n ?_
      refine T.ret ?_
      have hql : q = rs.length := by have h : ¬ (q : Int) < rs.length := ht27; omega
      subst hql
      rw [UM_end, UM_end]
      refine TQ.rets [4, 5] _ rfl rfl rfl ⟨a1, c1, a2, c2, msegs R (EU rs) bs1 ++ (msegs R (ED rs) bs2 ++ [g1, g2]), rfl, by simp, ?_, ?_⟩
      · exact Mat.of hb1 ho1 (by simp) (fun s hs => List.mem_append_left _ hs)
      · exact Mat.of hb2 ho2 (by simp) (fun s hs => List.mem_append_right _ (List.mem_append_left _ hs))
end Go.Proofs.Ytdehpaikapbckaa
/- Rules that numbers make are right; what a change reaches: plain Lean. -/
namespace Go.Proofs.Ytdehpaikapbckaa
open Go.Sl
structure MadeOk (R : Nat) (rs : List RuleD) : Prop where
  ck : check R rs = 0
  rg : RngR R rs
  len : rs.length ≤ 60
  bl : ∀ r ∈ rs, r.body.length ≤ 2
theorem atomsOk_of {R : Nat} : ∀ {l : List AtomD}, (∀ x ∈ l, ∃ b : Nat, x.rel = b ∧ b < R) → atomsOk R l = true
  | [], _ => rfl
  | x :: l, h => by
    obtain ⟨b, h1, h2⟩ := h x List.mem_cons_self
    simp only [atomsOk, Bool.and_eq_true]
    exact ⟨by simp [inR, h1]; omega, atomsOk_of fun y hy => h y (List.mem_cons_of_mem _ hy)⟩
theorem errs_of {R : Nat} : ∀ {rs : List RuleD}, RngR R rs → (∀ r ∈ rs, r.body.length ≤ 2) → errs R rs = 0
  | [], _, _ => rfl
  | r :: rs, h, hb => by
    obtain ⟨⟨hd, h1, h2⟩, h3⟩ := h r List.mem_cons_self
    have hr : checkR R r = 0 := by
      unfold checkR
      have := hb r List.mem_cons_self
      rw [if_neg (by omega), if_neg (by simp [inR, h1]; omega), if_pos (atomsOk_of h3)]
    unfold errs
    rw [if_pos hr]
    exact errs_of (fun x hx => h x (List.mem_cons_of_mem _ hx)) (fun x hx => hb x (List.mem_cons_of_mem _ hx))
theorem made_ok {R : Nat} {rs : List RuleD} {xs : List Nat} (hkey : rs.map keyR = xs.map (looseK R)) (hR : 0 < R) (hR2 : R ≤ 48) (hl : xs.length ≤ 60) : MadeOk R rs := by
  have hmem : ∀ r ∈ rs, ∃ n, r.head = ((n % R : Nat) : Int) ∧ r.body = looseB R n := fun r hr => by
    have : keyR r ∈ xs.map (looseK R) := by rw [← hkey]; exact List.mem_map.2 ⟨r, hr, rfl⟩
    obtain ⟨n, _, hn⟩ := List.mem_map.1 this
    simp only [looseK, keyR, Prod.mk.injEq] at hn
    exact ⟨n, hn.1.symm, hn.2.symm⟩
  have hrg : RngR R rs := fun r hr => by
    obtain ⟨n, h1, h2⟩ := hmem r hr
    refine ⟨⟨_, h1, Nat.mod_lt _ hR⟩, fun x hx => ?_⟩
    rw [h2] at hx
    unfold looseB at hx
    rcases List.mem_append.1 hx with h | h
    · have : x = ⟨((n / 2 ^ 4 % R : Nat) : Int), decide ((((n / 2 ^ 8) &&& 3 : Nat) : Int) = 0), none, 0, 0⟩ := by simpa using h
      subst this
      exact ⟨_, rfl, Nat.mod_lt _ hR⟩
    · split at h
      · have : x = mkA ((n / 2 ^ 11 % R : Nat) : Int) := by simpa using h
        subst this
        exact ⟨_, rfl, Nat.mod_lt _ hR⟩
      · simp at h
  have hbl : ∀ r ∈ rs, r.body.length ≤ 2 := fun r hr => by
    obtain ⟨n, h1, h2⟩ := hmem r hr
    rw [h2]
    unfold looseB
    split <;> simp
  have hlen : rs.length ≤ 60 := by have := congrArg List.length hkey; simp at this; omega
  refine ⟨?_, hrg, hlen, hbl⟩
  unfold check
  rw [if_neg (by omega), if_neg (by omega), if_neg (by omega)]
  exact errs_of hrg hbl
theorem MadeOk.bl63 {R : Nat} {rs : List RuleD} (h : MadeOk R rs) : ∀ r ∈ rs, r.body.length < 2 ^ 63 := fun r hr => by have := h.bl r hr; omega
/-- A round of what a change reaches. -/
structure RSeek (E : Nat → Nat → Bool) (R : Nat) (C : List Nat) (A : Nat → Bool) (q : List Nat) : Prop where
  qlt : ∀ x ∈ q, x < R
  qh : ∀ x ∈ q, hits (fwM E R) C x = true
  ah : ∀ x, x < R → A x = true → hits (fwM E R) C x = true
  cs : ∀ s ∈ C, s ∈ q ∨ A s = true
  cl : ∀ a b, a < R → b < R → A a = true → E b a = true → A b = true ∨ b ∈ q
theorem hits_iff {M : Nat → Nat → Bool} {C : List Nat} {x : Nat} : hits M C x = true ↔ x ∈ C ∨ ∃ s ∈ C, M x s = true := by
  simp [hits]
theorem RSeek.start {E : Nat → Nat → Bool} {R : Nat} {C : List Nat} (hC : ∀ x ∈ C, x < R) : RSeek E R C (fun _ => false) C :=
  ⟨hC, fun x hx => hits_iff.2 (.inl hx), fun x _ h => by simp at h, fun s hs => .inl hs, fun a b _ _ h => by simp at h⟩
theorem RSeek.skip {E : Nat → Nat → Bool} {R x : Nat} {C q : List Nat} {A : Nat → Bool} (h : RSeek E R C A (x :: q)) (hx : A x = true) : RSeek E R C A q :=
  ⟨fun y hy => h.qlt y (List.mem_cons_of_mem _ hy), fun y hy => h.qh y (List.mem_cons_of_mem _ hy), h.ah, fun s hs => (h.cs s hs).elim (fun h1 => by
    rcases List.mem_cons.1 h1 with rfl | h1
    · exact .inr hx
    · exact .inl h1) .inr, fun a b ha hb h1 h2 => (h.cl a b ha hb h1 h2).elim .inl (fun h3 => by
    rcases List.mem_cons.1 h3 with rfl | h3
    · exact .inl hx
    · exact .inr h3)⟩
/-- What is put behind the queue for x. -/
def usersS (E : Nat → Nat → Bool) (R x : Nat) : List Nat := (List.range R).filter fun b => E b x
theorem hits_up {E : Nat → Nat → Bool} {R b x : Nat} {C : List Nat} (_hC : ∀ x ∈ C, x < R) (hx : x < R) (he : E b x = true) (h : hits (fwM E R) C x = true) : hits (fwM E R) C b = true := by
  rcases hits_iff.1 h with h | ⟨s, hs, h⟩
  · exact hits_iff.2 (.inr ⟨x, h, fw_E he⟩)
  · exact hits_iff.2 (.inr ⟨s, hs, fw_trans hx (fw_E he) h⟩)
theorem RSeek.mark {E : Nat → Nat → Bool} {R x : Nat} {C q : List Nat} {A : Nat → Bool} (hC : ∀ x ∈ C, x < R) (h : RSeek E R C A (x :: q)) : RSeek E R C (markA A x) (q ++ usersS E R x) := by
  have hxR := h.qlt x List.mem_cons_self
  have hxh := h.qh x List.mem_cons_self
  have hu : ∀ y ∈ usersS E R x, y < R ∧ E y x = true := fun y hy => by simpa [usersS] using hy
  refine ⟨fun y hy => ?_, fun y hy => ?_, fun y hy h1 => ?_, fun s hs => ?_, fun a b ha hb h1 h2 => ?_⟩
  · rcases List.mem_append.1 hy with h1 | h1
    · exact h.qlt y (List.mem_cons_of_mem _ h1)
    · exact (hu y h1).1
  · rcases List.mem_append.1 hy with h1 | h1
    · exact h.qh y (List.mem_cons_of_mem _ h1)
    · exact hits_up hC hxR (hu y h1).2 hxh
  · by_cases e : y = x
    · subst e; exact hxh
    · exact h.ah y hy (by simpa [markA, e] using h1)
  · rcases h.cs s hs with h1 | h1
    · rcases List.mem_cons.1 h1 with rfl | h1
      · exact .inr (by simp [markA])
      · exact .inl (List.mem_append_left _ h1)
    · exact .inr (by simp [markA, h1])
  · by_cases e : a = x
    · subst e
      exact .inr (List.mem_append_right _ (by simp [usersS, hb, h2]))
    · have h3 : A a = true := by simpa [markA, e] using h1
      rcases h.cl a b ha hb h3 h2 with h4 | h4
      · exact .inl (by simp [markA, h4])
      · rcases List.mem_cons.1 h4 with rfl | h4
        · exact .inl (by simp [markA])
        · exact .inr (List.mem_append_left _ h4)
theorem RSeek.fin {E : Nat → Nat → Bool} {R : Nat} {C : List Nat} {A : Nat → Bool} (hC : ∀ x ∈ C, x < R) (h : RSeek E R C A []) : ∀ x, x < R → A x = hits (fwM E R) C x := by
  intro x hx
  rw [Bool.eq_iff_iff]
  refine ⟨h.ah x hx, fun hh => ?_⟩
  have hs : ∀ s ∈ C, A s = true := fun s hs => (h.cs s hs).elim (fun h1 => by simp at h1) id
  rcases hits_iff.1 hh with h1 | ⟨s, h1, h2⟩
  · exact hs x h1
  · apply Classical.byContradiction
    intro hn
    have := fw_least (E := E) (n := R) (fun y => ¬ A y = true) (fun a b ha hb h3 h4 h5 => by
      rcases h.cl b a hb ha h5 h4 with h6 | h6
      · exact h3 h6
      · simp at h6) (Nat.le_refl R) hx (hC s h1) hn h2
    exact this (hs s h1)
end Go.Proofs.Ytdehpaikapbckaa
