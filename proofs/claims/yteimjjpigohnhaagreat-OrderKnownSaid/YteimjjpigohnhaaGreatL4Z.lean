/- What is said of single times: for every input. No condition. -/
import Derived.Test.YteimjjpigohnhaaGreatSf
import Derived.Test.YteimjjpigohnhaaGreatRows
/- What is said of single times. -/
namespace Go.Proofs.YteimjjpigohnhaaGreat
open Go.Sl
variable {S : Nat → Prop} {w0 : World} {η : Heap}
set_option maxRecDepth 8000
def badS : List (List Tm) := [[[], []], [[1], [1, 2]], [[1, -1], [1, 1]], [[1, 1], [1073741825, 0]], [[1, 2, 3, 4, 5], [1, 2, 3, 4, 5]]]
structure BadAt (p : List Tm) : Prop where
 len : p.length = 2
 x : (p.getD 0 []).length ≤ 5
 y : (p.getD 1 []).length ≤ 5
 less : (lessS (p.getD 0 []) (p.getD 1 [])).2 = 1
 meet : (meetS (p.getD 0 []) (p.getD 1 [])).2 = 1
 join : (joinS (p.getD 0 []) (p.getD 1 [])).2 = 1
 sort : (sortS p).2 = 1
 firsts : (firstsS p).2 = 1
 lasts : (lastsS p).2 = 1
 beyond : (beyondS [p.getD 1 []] (p.getD 0 [])).2 = 1
 seen : (seenS [p.getD 1 []] (p.getD 0 [])).2 = 1
 chains : (chainsS p).2 = 1
 widest : (widestS p).2 = 1
theorem bad_at (i : Nat) (hi : i < 5) : BadAt (badS.getD i []) := by
 match i, hi with
 | 0, _ => exact ⟨by decide +kernel, by decide +kernel, by decide +kernel, by decide +kernel, by decide +kernel, by decide +kernel, by decide +kernel, by decide +kernel, by decide +kernel, by decide +kernel, by decide +kernel, by decide +kernel, by decide +kernel⟩
 | 1, _ => exact ⟨by decide +kernel, by decide +kernel, by decide +kernel, by decide +kernel, by decide +kernel, by decide +kernel, by decide +kernel, by decide +kernel, by decide +kernel, by decide +kernel, by decide +kernel, by decide +kernel, by decide +kernel⟩
 | 2, _ => exact ⟨by decide +kernel, by decide +kernel, by decide +kernel, by decide +kernel, by decide +kernel, by decide +kernel, by decide +kernel, by decide +kernel, by decide +kernel, by decide +kernel, by decide +kernel, by decide +kernel, by decide +kernel⟩
 | 3, _ => exact ⟨by decide +kernel, by decide +kernel, by decide +kernel, by decide +kernel, by decide +kernel, by decide +kernel, by decide +kernel, by decide +kernel, by decide +kernel, by decide +kernel, by decide +kernel, by decide +kernel, by decide +kernel⟩
 | 4, _ => exact ⟨by decide +kernel, by decide +kernel, by decide +kernel, by decide +kernel, by decide +kernel, by decide +kernel, by decide +kernel, by decide +kernel, by decide +kernel, by decide +kernel, by decide +kernel, by decide +kernel, by decide +kernel⟩
def longP : List HL := List.replicate 201 (none, [], 0)
theorem longP_len : longP.length = 201 := List.length_replicate
theorem longP_hc : longP.map hc = List.replicate 201 (Value.slice none 0 0) := List.map_replicate
theorem longP_lt : ∀ p ∈ longP, p.2.1.length < 2 ^ 63 := fun p hp => by rw [List.eq_of_mem_replicate hp]; decide
theorem ints_rep : ints (List.replicate 4160 0) = List.replicate 4160 (Value.int .i64 0) := List.map_replicate
theorem big_box : sumsP [64, 65] (List.replicate 4160 0) = ([], 1) := by
 have e : linesE [64, 65] (List.replicate 4160 0) = 1 := by unfold linesE; rw [if_pos (by decide)]
 unfold sumsP boxL; rw [if_neg (by rw [e]; decide), e]
theorem frzK {S' : Nat → Prop} {w1 : World} {ηr : Heap} {a : Option Addr} {gs : List GL} (h : L3 S w0 ηr a gs) (hz : Frz S S' w0 w1 ηr) : L3 S' w1 [] a gs := ⟨h.row.frz hz, fun p hp => (h.item p hp).frz hz⟩
theorem roK {η' : Heap} {a : Option Addr} {gs : List GL} (h : L3 S w0 [] a gs) : L3 S w0 η' a gs := h.up (fun _ hx => by simp at hx)
theorem itK {a : Option Addr} {gs : List GL} (h : L3 S w0 η a gs) {i : Nat} (hi : i < gs.length) : LL S w0 η gs[i].1 gs[i].2.1 := h.item _ (List.getElem_mem hi)
set_option maxHeartbeats 2000000 in
theorem OrderKnown_fn  :
  Rt Tryz.prog 4 [].toArray S w0 [] (fun v _ => v = .bool true) := by
 have hF := open_wide
 refine Rt.of (fn := Tryz.f4) Tryz.func4 rfl rfl ?_
 refine T.seq ?_
 refine T.region ?_
 refine TL.assign hF rfl rfl ?_
 refine TL.nil ?_
 refine TQ.then_n ?_
 refine T.seq ?_
 refine T.region ?_
 have hb := Back.refl S w0
 refine TL.buildSlice hF rfl (cs := #[]) (e := 3) (fun w => by kernel_rfl) rfl (fun b56 => ?_)
 refine TL.buildSlice hF rfl (cs := #[]) (e := 3) (fun w => by kernel_rfl) rfl (fun b57 => ?_)
 refine TL.buildSlice hF rfl (cs := #[.slice (some ⟨b56, 0, none⟩) 0 0, .slice (some ⟨b57, 0, none⟩) 0 0]) (e := 22) (fun w => by kernel_rfl) rfl (fun b58 => ?_)
 refine TL.buildSlice hF rfl (cs := #[.int .i64 1]) (e := 3) (fun w => by kernel_rfl) rfl (fun b59 => ?_)
 refine TL.buildSlice hF rfl (cs := #[.int .i64 1, .int .i64 2]) (e := 3) (fun w => by kernel_rfl) rfl (fun b60 => ?_)
 refine TL.buildSlice hF rfl (cs := #[.slice (some ⟨b59, 0, none⟩) 1 1, .slice (some ⟨b60, 0, none⟩) 2 2]) (e := 22) (fun w => by kernel_rfl) rfl (fun b61 => ?_)
 refine TL.buildSlice hF rfl (cs := #[.int .i64 1, .int .i64 (-1)]) (e := 3) (fun w => by kernel_rfl) rfl (fun b62 => ?_)
 refine TL.buildSlice hF rfl (cs := #[.int .i64 1, .int .i64 1]) (e := 3) (fun w => by kernel_rfl) rfl (fun b63 => ?_)
 refine TL.buildSlice hF rfl (cs := #[.slice (some ⟨b62, 0, none⟩) 2 2, .slice (some ⟨b63, 0, none⟩) 2 2]) (e := 22) (fun w => by kernel_rfl) rfl (fun b64 => ?_)
 refine TL.buildSlice hF rfl (cs := #[.int .i64 1, .int .i64 1]) (e := 3) (fun w => by kernel_rfl) rfl (fun b65 => ?_)
 refine TL.buildSlice hF rfl (cs := #[.int .i64 1073741825, .int .i64 0]) (e := 3) (fun w => by kernel_rfl) rfl (fun b66 => ?_)
 refine TL.buildSlice hF rfl (cs := #[.slice (some ⟨b65, 0, none⟩) 2 2, .slice (some ⟨b66, 0, none⟩) 2 2]) (e := 22) (fun w => by kernel_rfl) rfl (fun b67 => ?_)
 refine TL.buildSlice hF rfl (cs := #[.int .i64 1, .int .i64 2, .int .i64 3, .int .i64 4, .int .i64 5]) (e := 3) (fun w => by kernel_rfl) rfl (fun b68 => ?_)
 refine TL.buildSlice hF rfl (cs := #[.int .i64 1, .int .i64 2, .int .i64 3, .int .i64 4, .int .i64 5]) (e := 3) (fun w => by kernel_rfl) rfl (fun b69 => ?_)
 refine TL.buildSlice hF rfl (cs := #[.slice (some ⟨b68, 0, none⟩) 5 5, .slice (some ⟨b69, 0, none⟩) 5 5]) (e := 22) (fun w => by kernel_rfl) rfl (fun b70 => ?_)
 refine TL.buildSlice hF rfl (cs := #[.slice (some ⟨b58, 0, none⟩) 2 2, .slice (some ⟨b61, 0, none⟩) 2 2, .slice (some ⟨b64, 0, none⟩) 2 2, .slice (some ⟨b67, 0, none⟩) 2 2, .slice (some ⟨b70, 0, none⟩) 2 2]) (e := 32) (fun w => by kernel_rfl) rfl (fun b71 => ?_)
 refine TL.freeze ([[(b71, Obj.cells #[.slice (some ⟨b58, 0, none⟩) 2 2, .slice (some ⟨b61, 0, none⟩) 2 2, .slice (some ⟨b64, 0, none⟩) 2 2, .slice (some ⟨b67, 0, none⟩) 2 2, .slice (some ⟨b70, 0, none⟩) 2 2] 32 (0, 0))], [(b70, Obj.cells #[.slice (some ⟨b68, 0, none⟩) 5 5, .slice (some ⟨b69, 0, none⟩) 5 5] 22 (0, 0))], [(b69, Obj.cells #[.int .i64 1, .int .i64 2, .int .i64 3, .int .i64 4, .int .i64 5] 3 (0, 0))], [(b68, Obj.cells #[.int .i64 1, .int .i64 2, .int .i64 3, .int .i64 4, .int .i64 5] 3 (0, 0))], [(b67, Obj.cells #[.slice (some ⟨b65, 0, none⟩) 2 2, .slice (some ⟨b66, 0, none⟩) 2 2] 22 (0, 0))], [(b66, Obj.cells #[.int .i64 1073741825, .int .i64 0] 3 (0, 0))], [(b65, Obj.cells #[.int .i64 1, .int .i64 1] 3 (0, 0))], [(b64, Obj.cells #[.slice (some ⟨b62, 0, none⟩) 2 2, .slice (some ⟨b63, 0, none⟩) 2 2] 22 (0, 0))], [(b63, Obj.cells #[.int .i64 1, .int .i64 1] 3 (0, 0))], [(b62, Obj.cells #[.int .i64 1, .int .i64 (-1)] 3 (0, 0))], [(b61, Obj.cells #[.slice (some ⟨b59, 0, none⟩) 1 1, .slice (some ⟨b60, 0, none⟩) 2 2] 22 (0, 0))], [(b60, Obj.cells #[.int .i64 1, .int .i64 2] 3 (0, 0))], [(b59, Obj.cells #[.int .i64 1] 3 (0, 0))], [(b58, Obj.cells #[.slice (some ⟨b56, 0, none⟩) 0 0, .slice (some ⟨b57, 0, none⟩) 0 0] 22 (0, 0))], [(b57, Obj.cells #[] 3 (0, 0))], [(b56, Obj.cells #[] 3 (0, 0))]]) rfl (fun S1 w1 hz1 => ?_)
 replace hb := hb.frz hz1
 have h56 : Row S1 w1 [] (some ⟨b56, 0, none⟩) (ints []) := (row_own (η := [[(b71, Obj.cells #[.slice (some ⟨b58, 0, none⟩) 2 2, .slice (some ⟨b61, 0, none⟩) 2 2, .slice (some ⟨b64, 0, none⟩) 2 2, .slice (some ⟨b67, 0, none⟩) 2 2, .slice (some ⟨b70, 0, none⟩) 2 2] 32 (0, 0))], [(b70, Obj.cells #[.slice (some ⟨b68, 0, none⟩) 5 5, .slice (some ⟨b69, 0, none⟩) 5 5] 22 (0, 0))], [(b69, Obj.cells #[.int .i64 1, .int .i64 2, .int .i64 3, .int .i64 4, .int .i64 5] 3 (0, 0))], [(b68, Obj.cells #[.int .i64 1, .int .i64 2, .int .i64 3, .int .i64 4, .int .i64 5] 3 (0, 0))], [(b67, Obj.cells #[.slice (some ⟨b65, 0, none⟩) 2 2, .slice (some ⟨b66, 0, none⟩) 2 2] 22 (0, 0))], [(b66, Obj.cells #[.int .i64 1073741825, .int .i64 0] 3 (0, 0))], [(b65, Obj.cells #[.int .i64 1, .int .i64 1] 3 (0, 0))], [(b64, Obj.cells #[.slice (some ⟨b62, 0, none⟩) 2 2, .slice (some ⟨b63, 0, none⟩) 2 2] 22 (0, 0))], [(b63, Obj.cells #[.int .i64 1, .int .i64 1] 3 (0, 0))], [(b62, Obj.cells #[.int .i64 1, .int .i64 (-1)] 3 (0, 0))], [(b61, Obj.cells #[.slice (some ⟨b59, 0, none⟩) 1 1, .slice (some ⟨b60, 0, none⟩) 2 2] 22 (0, 0))], [(b60, Obj.cells #[.int .i64 1, .int .i64 2] 3 (0, 0))], [(b59, Obj.cells #[.int .i64 1] 3 (0, 0))], [(b58, Obj.cells #[.slice (some ⟨b56, 0, none⟩) 0 0, .slice (some ⟨b57, 0, none⟩) 0 0] 22 (0, 0))], [(b57, Obj.cells #[] 3 (0, 0))], [(b56, Obj.cells #[] 3 (0, 0))]]) (cs := []) (e := 3) (by simp)).frz hz1
 have h57 : Row S1 w1 [] (some ⟨b57, 0, none⟩) (ints []) := (row_own (η := [[(b71, Obj.cells #[.slice (some ⟨b58, 0, none⟩) 2 2, .slice (some ⟨b61, 0, none⟩) 2 2, .slice (some ⟨b64, 0, none⟩) 2 2, .slice (some ⟨b67, 0, none⟩) 2 2, .slice (some ⟨b70, 0, none⟩) 2 2] 32 (0, 0))], [(b70, Obj.cells #[.slice (some ⟨b68, 0, none⟩) 5 5, .slice (some ⟨b69, 0, none⟩) 5 5] 22 (0, 0))], [(b69, Obj.cells #[.int .i64 1, .int .i64 2, .int .i64 3, .int .i64 4, .int .i64 5] 3 (0, 0))], [(b68, Obj.cells #[.int .i64 1, .int .i64 2, .int .i64 3, .int .i64 4, .int .i64 5] 3 (0, 0))], [(b67, Obj.cells #[.slice (some ⟨b65, 0, none⟩) 2 2, .slice (some ⟨b66, 0, none⟩) 2 2] 22 (0, 0))], [(b66, Obj.cells #[.int .i64 1073741825, .int .i64 0] 3 (0, 0))], [(b65, Obj.cells #[.int .i64 1, .int .i64 1] 3 (0, 0))], [(b64, Obj.cells #[.slice (some ⟨b62, 0, none⟩) 2 2, .slice (some ⟨b63, 0, none⟩) 2 2] 22 (0, 0))], [(b63, Obj.cells #[.int .i64 1, .int .i64 1] 3 (0, 0))], [(b62, Obj.cells #[.int .i64 1, .int .i64 (-1)] 3 (0, 0))], [(b61, Obj.cells #[.slice (some ⟨b59, 0, none⟩) 1 1, .slice (some ⟨b60, 0, none⟩) 2 2] 22 (0, 0))], [(b60, Obj.cells #[.int .i64 1, .int .i64 2] 3 (0, 0))], [(b59, Obj.cells #[.int .i64 1] 3 (0, 0))], [(b58, Obj.cells #[.slice (some ⟨b56, 0, none⟩) 0 0, .slice (some ⟨b57, 0, none⟩) 0 0] 22 (0, 0))], [(b57, Obj.cells #[] 3 (0, 0))], [(b56, Obj.cells #[] 3 (0, 0))]]) (cs := []) (e := 3) (by simp)).frz hz1
 have h58 : LL S1 w1 [] (some ⟨b58, 0, none⟩) [(some ⟨b56, 0, none⟩, [], 0), (some ⟨b57, 0, none⟩, [], 0)] := ⟨(row_own (η := [[(b71, Obj.cells #[.slice (some ⟨b58, 0, none⟩) 2 2, .slice (some ⟨b61, 0, none⟩) 2 2, .slice (some ⟨b64, 0, none⟩) 2 2, .slice (some ⟨b67, 0, none⟩) 2 2, .slice (some ⟨b70, 0, none⟩) 2 2] 32 (0, 0))], [(b70, Obj.cells #[.slice (some ⟨b68, 0, none⟩) 5 5, .slice (some ⟨b69, 0, none⟩) 5 5] 22 (0, 0))], [(b69, Obj.cells #[.int .i64 1, .int .i64 2, .int .i64 3, .int .i64 4, .int .i64 5] 3 (0, 0))], [(b68, Obj.cells #[.int .i64 1, .int .i64 2, .int .i64 3, .int .i64 4, .int .i64 5] 3 (0, 0))], [(b67, Obj.cells #[.slice (some ⟨b65, 0, none⟩) 2 2, .slice (some ⟨b66, 0, none⟩) 2 2] 22 (0, 0))], [(b66, Obj.cells #[.int .i64 1073741825, .int .i64 0] 3 (0, 0))], [(b65, Obj.cells #[.int .i64 1, .int .i64 1] 3 (0, 0))], [(b64, Obj.cells #[.slice (some ⟨b62, 0, none⟩) 2 2, .slice (some ⟨b63, 0, none⟩) 2 2] 22 (0, 0))], [(b63, Obj.cells #[.int .i64 1, .int .i64 1] 3 (0, 0))], [(b62, Obj.cells #[.int .i64 1, .int .i64 (-1)] 3 (0, 0))], [(b61, Obj.cells #[.slice (some ⟨b59, 0, none⟩) 1 1, .slice (some ⟨b60, 0, none⟩) 2 2] 22 (0, 0))], [(b60, Obj.cells #[.int .i64 1, .int .i64 2] 3 (0, 0))], [(b59, Obj.cells #[.int .i64 1] 3 (0, 0))], [(b58, Obj.cells #[.slice (some ⟨b56, 0, none⟩) 0 0, .slice (some ⟨b57, 0, none⟩) 0 0] 22 (0, 0))], [(b57, Obj.cells #[] 3 (0, 0))], [(b56, Obj.cells #[] 3 (0, 0))]]) (cs := [.slice (some ⟨b56, 0, none⟩) 0 0, .slice (some ⟨b57, 0, none⟩) 0 0]) (e := 22) (by simp)).frz hz1, fun p hp => by
  simp only [List.mem_cons, List.not_mem_nil, or_false] at hp
  rcases hp with rfl | rfl
  ·exact h56
  ·exact h57⟩
 have h59 : Row S1 w1 [] (some ⟨b59, 0, none⟩) (ints [1]) := (row_own (η := [[(b71, Obj.cells #[.slice (some ⟨b58, 0, none⟩) 2 2, .slice (some ⟨b61, 0, none⟩) 2 2, .slice (some ⟨b64, 0, none⟩) 2 2, .slice (some ⟨b67, 0, none⟩) 2 2, .slice (some ⟨b70, 0, none⟩) 2 2] 32 (0, 0))], [(b70, Obj.cells #[.slice (some ⟨b68, 0, none⟩) 5 5, .slice (some ⟨b69, 0, none⟩) 5 5] 22 (0, 0))], [(b69, Obj.cells #[.int .i64 1, .int .i64 2, .int .i64 3, .int .i64 4, .int .i64 5] 3 (0, 0))], [(b68, Obj.cells #[.int .i64 1, .int .i64 2, .int .i64 3, .int .i64 4, .int .i64 5] 3 (0, 0))], [(b67, Obj.cells #[.slice (some ⟨b65, 0, none⟩) 2 2, .slice (some ⟨b66, 0, none⟩) 2 2] 22 (0, 0))], [(b66, Obj.cells #[.int .i64 1073741825, .int .i64 0] 3 (0, 0))], [(b65, Obj.cells #[.int .i64 1, .int .i64 1] 3 (0, 0))], [(b64, Obj.cells #[.slice (some ⟨b62, 0, none⟩) 2 2, .slice (some ⟨b63, 0, none⟩) 2 2] 22 (0, 0))], [(b63, Obj.cells #[.int .i64 1, .int .i64 1] 3 (0, 0))], [(b62, Obj.cells #[.int .i64 1, .int .i64 (-1)] 3 (0, 0))], [(b61, Obj.cells #[.slice (some ⟨b59, 0, none⟩) 1 1, .slice (some ⟨b60, 0, none⟩) 2 2] 22 (0, 0))], [(b60, Obj.cells #[.int .i64 1, .int .i64 2] 3 (0, 0))], [(b59, Obj.cells #[.int .i64 1] 3 (0, 0))], [(b58, Obj.cells #[.slice (some ⟨b56, 0, none⟩) 0 0, .slice (some ⟨b57, 0, none⟩) 0 0] 22 (0, 0))], [(b57, Obj.cells #[] 3 (0, 0))], [(b56, Obj.cells #[] 3 (0, 0))]]) (cs := [.int .i64 1]) (e := 3) (by simp)).frz hz1
 have h60 : Row S1 w1 [] (some ⟨b60, 0, none⟩) (ints [1, 2]) := (row_own (η := [[(b71, Obj.cells #[.slice (some ⟨b58, 0, none⟩) 2 2, .slice (some ⟨b61, 0, none⟩) 2 2, .slice (some ⟨b64, 0, none⟩) 2 2, .slice (some ⟨b67, 0, none⟩) 2 2, .slice (some ⟨b70, 0, none⟩) 2 2] 32 (0, 0))], [(b70, Obj.cells #[.slice (some ⟨b68, 0, none⟩) 5 5, .slice (some ⟨b69, 0, none⟩) 5 5] 22 (0, 0))], [(b69, Obj.cells #[.int .i64 1, .int .i64 2, .int .i64 3, .int .i64 4, .int .i64 5] 3 (0, 0))], [(b68, Obj.cells #[.int .i64 1, .int .i64 2, .int .i64 3, .int .i64 4, .int .i64 5] 3 (0, 0))], [(b67, Obj.cells #[.slice (some ⟨b65, 0, none⟩) 2 2, .slice (some ⟨b66, 0, none⟩) 2 2] 22 (0, 0))], [(b66, Obj.cells #[.int .i64 1073741825, .int .i64 0] 3 (0, 0))], [(b65, Obj.cells #[.int .i64 1, .int .i64 1] 3 (0, 0))], [(b64, Obj.cells #[.slice (some ⟨b62, 0, none⟩) 2 2, .slice (some ⟨b63, 0, none⟩) 2 2] 22 (0, 0))], [(b63, Obj.cells #[.int .i64 1, .int .i64 1] 3 (0, 0))], [(b62, Obj.cells #[.int .i64 1, .int .i64 (-1)] 3 (0, 0))], [(b61, Obj.cells #[.slice (some ⟨b59, 0, none⟩) 1 1, .slice (some ⟨b60, 0, none⟩) 2 2] 22 (0, 0))], [(b60, Obj.cells #[.int .i64 1, .int .i64 2] 3 (0, 0))], [(b59, Obj.cells #[.int .i64 1] 3 (0, 0))], [(b58, Obj.cells #[.slice (some ⟨b56, 0, none⟩) 0 0, .slice (some ⟨b57, 0, none⟩) 0 0] 22 (0, 0))], [(b57, Obj.cells #[] 3 (0, 0))], [(b56, Obj.cells #[] 3 (0, 0))]]) (cs := [.int .i64 1, .int .i64 2]) (e := 3) (by simp)).frz hz1
 have h61 : LL S1 w1 [] (some ⟨b61, 0, none⟩) [(some ⟨b59, 0, none⟩, [1], 1), (some ⟨b60, 0, none⟩, [1, 2], 2)] := ⟨(row_own (η := [[(b71, Obj.cells #[.slice (some ⟨b58, 0, none⟩) 2 2, .slice (some ⟨b61, 0, none⟩) 2 2, .slice (some ⟨b64, 0, none⟩) 2 2, .slice (some ⟨b67, 0, none⟩) 2 2, .slice (some ⟨b70, 0, none⟩) 2 2] 32 (0, 0))], [(b70, Obj.cells #[.slice (some ⟨b68, 0, none⟩) 5 5, .slice (some ⟨b69, 0, none⟩) 5 5] 22 (0, 0))], [(b69, Obj.cells #[.int .i64 1, .int .i64 2, .int .i64 3, .int .i64 4, .int .i64 5] 3 (0, 0))], [(b68, Obj.cells #[.int .i64 1, .int .i64 2, .int .i64 3, .int .i64 4, .int .i64 5] 3 (0, 0))], [(b67, Obj.cells #[.slice (some ⟨b65, 0, none⟩) 2 2, .slice (some ⟨b66, 0, none⟩) 2 2] 22 (0, 0))], [(b66, Obj.cells #[.int .i64 1073741825, .int .i64 0] 3 (0, 0))], [(b65, Obj.cells #[.int .i64 1, .int .i64 1] 3 (0, 0))], [(b64, Obj.cells #[.slice (some ⟨b62, 0, none⟩) 2 2, .slice (some ⟨b63, 0, none⟩) 2 2] 22 (0, 0))], [(b63, Obj.cells #[.int .i64 1, .int .i64 1] 3 (0, 0))], [(b62, Obj.cells #[.int .i64 1, .int .i64 (-1)] 3 (0, 0))], [(b61, Obj.cells #[.slice (some ⟨b59, 0, none⟩) 1 1, .slice (some ⟨b60, 0, none⟩) 2 2] 22 (0, 0))], [(b60, Obj.cells #[.int .i64 1, .int .i64 2] 3 (0, 0))], [(b59, Obj.cells #[.int .i64 1] 3 (0, 0))], [(b58, Obj.cells #[.slice (some ⟨b56, 0, none⟩) 0 0, .slice (some ⟨b57, 0, none⟩) 0 0] 22 (0, 0))], [(b57, Obj.cells #[] 3 (0, 0))], [(b56, Obj.cells #[] 3 (0, 0))]]) (cs := [.slice (some ⟨b59, 0, none⟩) 1 1, .slice (some ⟨b60, 0, none⟩) 2 2]) (e := 22) (by simp)).frz hz1, fun p hp => by
  simp only [List.mem_cons, List.not_mem_nil, or_false] at hp
  rcases hp with rfl | rfl
  ·exact h59
  ·exact h60⟩
 have h62 : Row S1 w1 [] (some ⟨b62, 0, none⟩) (ints [1, -1]) := (row_own (η := [[(b71, Obj.cells #[.slice (some ⟨b58, 0, none⟩) 2 2, .slice (some ⟨b61, 0, none⟩) 2 2, .slice (some ⟨b64, 0, none⟩) 2 2, .slice (some ⟨b67, 0, none⟩) 2 2, .slice (some ⟨b70, 0, none⟩) 2 2] 32 (0, 0))], [(b70, Obj.cells #[.slice (some ⟨b68, 0, none⟩) 5 5, .slice (some ⟨b69, 0, none⟩) 5 5] 22 (0, 0))], [(b69, Obj.cells #[.int .i64 1, .int .i64 2, .int .i64 3, .int .i64 4, .int .i64 5] 3 (0, 0))], [(b68, Obj.cells #[.int .i64 1, .int .i64 2, .int .i64 3, .int .i64 4, .int .i64 5] 3 (0, 0))], [(b67, Obj.cells #[.slice (some ⟨b65, 0, none⟩) 2 2, .slice (some ⟨b66, 0, none⟩) 2 2] 22 (0, 0))], [(b66, Obj.cells #[.int .i64 1073741825, .int .i64 0] 3 (0, 0))], [(b65, Obj.cells #[.int .i64 1, .int .i64 1] 3 (0, 0))], [(b64, Obj.cells #[.slice (some ⟨b62, 0, none⟩) 2 2, .slice (some ⟨b63, 0, none⟩) 2 2] 22 (0, 0))], [(b63, Obj.cells #[.int .i64 1, .int .i64 1] 3 (0, 0))], [(b62, Obj.cells #[.int .i64 1, .int .i64 (-1)] 3 (0, 0))], [(b61, Obj.cells #[.slice (some ⟨b59, 0, none⟩) 1 1, .slice (some ⟨b60, 0, none⟩) 2 2] 22 (0, 0))], [(b60, Obj.cells #[.int .i64 1, .int .i64 2] 3 (0, 0))], [(b59, Obj.cells #[.int .i64 1] 3 (0, 0))], [(b58, Obj.cells #[.slice (some ⟨b56, 0, none⟩) 0 0, .slice (some ⟨b57, 0, none⟩) 0 0] 22 (0, 0))], [(b57, Obj.cells #[] 3 (0, 0))], [(b56, Obj.cells #[] 3 (0, 0))]]) (cs := [.int .i64 1, .int .i64 (-1)]) (e := 3) (by simp)).frz hz1
 have h63 : Row S1 w1 [] (some ⟨b63, 0, none⟩) (ints [1, 1]) := (row_own (η := [[(b71, Obj.cells #[.slice (some ⟨b58, 0, none⟩) 2 2, .slice (some ⟨b61, 0, none⟩) 2 2, .slice (some ⟨b64, 0, none⟩) 2 2, .slice (some ⟨b67, 0, none⟩) 2 2, .slice (some ⟨b70, 0, none⟩) 2 2] 32 (0, 0))], [(b70, Obj.cells #[.slice (some ⟨b68, 0, none⟩) 5 5, .slice (some ⟨b69, 0, none⟩) 5 5] 22 (0, 0))], [(b69, Obj.cells #[.int .i64 1, .int .i64 2, .int .i64 3, .int .i64 4, .int .i64 5] 3 (0, 0))], [(b68, Obj.cells #[.int .i64 1, .int .i64 2, .int .i64 3, .int .i64 4, .int .i64 5] 3 (0, 0))], [(b67, Obj.cells #[.slice (some ⟨b65, 0, none⟩) 2 2, .slice (some ⟨b66, 0, none⟩) 2 2] 22 (0, 0))], [(b66, Obj.cells #[.int .i64 1073741825, .int .i64 0] 3 (0, 0))], [(b65, Obj.cells #[.int .i64 1, .int .i64 1] 3 (0, 0))], [(b64, Obj.cells #[.slice (some ⟨b62, 0, none⟩) 2 2, .slice (some ⟨b63, 0, none⟩) 2 2] 22 (0, 0))], [(b63, Obj.cells #[.int .i64 1, .int .i64 1] 3 (0, 0))], [(b62, Obj.cells #[.int .i64 1, .int .i64 (-1)] 3 (0, 0))], [(b61, Obj.cells #[.slice (some ⟨b59, 0, none⟩) 1 1, .slice (some ⟨b60, 0, none⟩) 2 2] 22 (0, 0))], [(b60, Obj.cells #[.int .i64 1, .int .i64 2] 3 (0, 0))], [(b59, Obj.cells #[.int .i64 1] 3 (0, 0))], [(b58, Obj.cells #[.slice (some ⟨b56, 0, none⟩) 0 0, .slice (some ⟨b57, 0, none⟩) 0 0] 22 (0, 0))], [(b57, Obj.cells #[] 3 (0, 0))], [(b56, Obj.cells #[] 3 (0, 0))]]) (cs := [.int .i64 1, .int .i64 1]) (e := 3) (by simp)).frz hz1
 have h64 : LL S1 w1 [] (some ⟨b64, 0, none⟩) [(some ⟨b62, 0, none⟩, [1, -1], 2), (some ⟨b63, 0, none⟩, [1, 1], 2)] := ⟨(row_own (η := [[(b71, Obj.cells #[.slice (some ⟨b58, 0, none⟩) 2 2, .slice (some ⟨b61, 0, none⟩) 2 2, .slice (some ⟨b64, 0, none⟩) 2 2, .slice (some ⟨b67, 0, none⟩) 2 2, .slice (some ⟨b70, 0, none⟩) 2 2] 32 (0, 0))], [(b70, Obj.cells #[.slice (some ⟨b68, 0, none⟩) 5 5, .slice (some ⟨b69, 0, none⟩) 5 5] 22 (0, 0))], [(b69, Obj.cells #[.int .i64 1, .int .i64 2, .int .i64 3, .int .i64 4, .int .i64 5] 3 (0, 0))], [(b68, Obj.cells #[.int .i64 1, .int .i64 2, .int .i64 3, .int .i64 4, .int .i64 5] 3 (0, 0))], [(b67, Obj.cells #[.slice (some ⟨b65, 0, none⟩) 2 2, .slice (some ⟨b66, 0, none⟩) 2 2] 22 (0, 0))], [(b66, Obj.cells #[.int .i64 1073741825, .int .i64 0] 3 (0, 0))], [(b65, Obj.cells #[.int .i64 1, .int .i64 1] 3 (0, 0))], [(b64, Obj.cells #[.slice (some ⟨b62, 0, none⟩) 2 2, .slice (some ⟨b63, 0, none⟩) 2 2] 22 (0, 0))], [(b63, Obj.cells #[.int .i64 1, .int .i64 1] 3 (0, 0))], [(b62, Obj.cells #[.int .i64 1, .int .i64 (-1)] 3 (0, 0))], [(b61, Obj.cells #[.slice (some ⟨b59, 0, none⟩) 1 1, .slice (some ⟨b60, 0, none⟩) 2 2] 22 (0, 0))], [(b60, Obj.cells #[.int .i64 1, .int .i64 2] 3 (0, 0))], [(b59, Obj.cells #[.int .i64 1] 3 (0, 0))], [(b58, Obj.cells #[.slice (some ⟨b56, 0, none⟩) 0 0, .slice (some ⟨b57, 0, none⟩) 0 0] 22 (0, 0))], [(b57, Obj.cells #[] 3 (0, 0))], [(b56, Obj.cells #[] 3 (0, 0))]]) (cs := [.slice (some ⟨b62, 0, none⟩) 2 2, .slice (some ⟨b63, 0, none⟩) 2 2]) (e := 22) (by simp)).frz hz1, fun p hp => by
  simp only [List.mem_cons, List.not_mem_nil, or_false] at hp
  rcases hp with rfl | rfl
  ·exact h62
  ·exact h63⟩
 have h65 : Row S1 w1 [] (some ⟨b65, 0, none⟩) (ints [1, 1]) := (row_own (η := [[(b71, Obj.cells #[.slice (some ⟨b58, 0, none⟩) 2 2, .slice (some ⟨b61, 0, none⟩) 2 2, .slice (some ⟨b64, 0, none⟩) 2 2, .slice (some ⟨b67, 0, none⟩) 2 2, .slice (some ⟨b70, 0, none⟩) 2 2] 32 (0, 0))], [(b70, Obj.cells #[.slice (some ⟨b68, 0, none⟩) 5 5, .slice (some ⟨b69, 0, none⟩) 5 5] 22 (0, 0))], [(b69, Obj.cells #[.int .i64 1, .int .i64 2, .int .i64 3, .int .i64 4, .int .i64 5] 3 (0, 0))], [(b68, Obj.cells #[.int .i64 1, .int .i64 2, .int .i64 3, .int .i64 4, .int .i64 5] 3 (0, 0))], [(b67, Obj.cells #[.slice (some ⟨b65, 0, none⟩) 2 2, .slice (some ⟨b66, 0, none⟩) 2 2] 22 (0, 0))], [(b66, Obj.cells #[.int .i64 1073741825, .int .i64 0] 3 (0, 0))], [(b65, Obj.cells #[.int .i64 1, .int .i64 1] 3 (0, 0))], [(b64, Obj.cells #[.slice (some ⟨b62, 0, none⟩) 2 2, .slice (some ⟨b63, 0, none⟩) 2 2] 22 (0, 0))], [(b63, Obj.cells #[.int .i64 1, .int .i64 1] 3 (0, 0))], [(b62, Obj.cells #[.int .i64 1, .int .i64 (-1)] 3 (0, 0))], [(b61, Obj.cells #[.slice (some ⟨b59, 0, none⟩) 1 1, .slice (some ⟨b60, 0, none⟩) 2 2] 22 (0, 0))], [(b60, Obj.cells #[.int .i64 1, .int .i64 2] 3 (0, 0))], [(b59, Obj.cells #[.int .i64 1] 3 (0, 0))], [(b58, Obj.cells #[.slice (some ⟨b56, 0, none⟩) 0 0, .slice (some ⟨b57, 0, none⟩) 0 0] 22 (0, 0))], [(b57, Obj.cells #[] 3 (0, 0))], [(b56, Obj.cells #[] 3 (0, 0))]]) (cs := [.int .i64 1, .int .i64 1]) (e := 3) (by simp)).frz hz1
 have h66 : Row S1 w1 [] (some ⟨b66, 0, none⟩) (ints [1073741825, 0]) := (row_own (η := [[(b71, Obj.cells #[.slice (some ⟨b58, 0, none⟩) 2 2, .slice (some ⟨b61, 0, none⟩) 2 2, .slice (some ⟨b64, 0, none⟩) 2 2, .slice (some ⟨b67, 0, none⟩) 2 2, .slice (some ⟨b70, 0, none⟩) 2 2] 32 (0, 0))], [(b70, Obj.cells #[.slice (some ⟨b68, 0, none⟩) 5 5, .slice (some ⟨b69, 0, none⟩) 5 5] 22 (0, 0))], [(b69, Obj.cells #[.int .i64 1, .int .i64 2, .int .i64 3, .int .i64 4, .int .i64 5] 3 (0, 0))], [(b68, Obj.cells #[.int .i64 1, .int .i64 2, .int .i64 3, .int .i64 4, .int .i64 5] 3 (0, 0))], [(b67, Obj.cells #[.slice (some ⟨b65, 0, none⟩) 2 2, .slice (some ⟨b66, 0, none⟩) 2 2] 22 (0, 0))], [(b66, Obj.cells #[.int .i64 1073741825, .int .i64 0] 3 (0, 0))], [(b65, Obj.cells #[.int .i64 1, .int .i64 1] 3 (0, 0))], [(b64, Obj.cells #[.slice (some ⟨b62, 0, none⟩) 2 2, .slice (some ⟨b63, 0, none⟩) 2 2] 22 (0, 0))], [(b63, Obj.cells #[.int .i64 1, .int .i64 1] 3 (0, 0))], [(b62, Obj.cells #[.int .i64 1, .int .i64 (-1)] 3 (0, 0))], [(b61, Obj.cells #[.slice (some ⟨b59, 0, none⟩) 1 1, .slice (some ⟨b60, 0, none⟩) 2 2] 22 (0, 0))], [(b60, Obj.cells #[.int .i64 1, .int .i64 2] 3 (0, 0))], [(b59, Obj.cells #[.int .i64 1] 3 (0, 0))], [(b58, Obj.cells #[.slice (some ⟨b56, 0, none⟩) 0 0, .slice (some ⟨b57, 0, none⟩) 0 0] 22 (0, 0))], [(b57, Obj.cells #[] 3 (0, 0))], [(b56, Obj.cells #[] 3 (0, 0))]]) (cs := [.int .i64 1073741825, .int .i64 0]) (e := 3) (by simp)).frz hz1
 have h67 : LL S1 w1 [] (some ⟨b67, 0, none⟩) [(some ⟨b65, 0, none⟩, [1, 1], 2), (some ⟨b66, 0, none⟩, [1073741825, 0], 2)] := ⟨(row_own (η := [[(b71, Obj.cells #[.slice (some ⟨b58, 0, none⟩) 2 2, .slice (some ⟨b61, 0, none⟩) 2 2, .slice (some ⟨b64, 0, none⟩) 2 2, .slice (some ⟨b67, 0, none⟩) 2 2, .slice (some ⟨b70, 0, none⟩) 2 2] 32 (0, 0))], [(b70, Obj.cells #[.slice (some ⟨b68, 0, none⟩) 5 5, .slice (some ⟨b69, 0, none⟩) 5 5] 22 (0, 0))], [(b69, Obj.cells #[.int .i64 1, .int .i64 2, .int .i64 3, .int .i64 4, .int .i64 5] 3 (0, 0))], [(b68, Obj.cells #[.int .i64 1, .int .i64 2, .int .i64 3, .int .i64 4, .int .i64 5] 3 (0, 0))], [(b67, Obj.cells #[.slice (some ⟨b65, 0, none⟩) 2 2, .slice (some ⟨b66, 0, none⟩) 2 2] 22 (0, 0))], [(b66, Obj.cells #[.int .i64 1073741825, .int .i64 0] 3 (0, 0))], [(b65, Obj.cells #[.int .i64 1, .int .i64 1] 3 (0, 0))], [(b64, Obj.cells #[.slice (some ⟨b62, 0, none⟩) 2 2, .slice (some ⟨b63, 0, none⟩) 2 2] 22 (0, 0))], [(b63, Obj.cells #[.int .i64 1, .int .i64 1] 3 (0, 0))], [(b62, Obj.cells #[.int .i64 1, .int .i64 (-1)] 3 (0, 0))], [(b61, Obj.cells #[.slice (some ⟨b59, 0, none⟩) 1 1, .slice (some ⟨b60, 0, none⟩) 2 2] 22 (0, 0))], [(b60, Obj.cells #[.int .i64 1, .int .i64 2] 3 (0, 0))], [(b59, Obj.cells #[.int .i64 1] 3 (0, 0))], [(b58, Obj.cells #[.slice (some ⟨b56, 0, none⟩) 0 0, .slice (some ⟨b57, 0, none⟩) 0 0] 22 (0, 0))], [(b57, Obj.cells #[] 3 (0, 0))], [(b56, Obj.cells #[] 3 (0, 0))]]) (cs := [.slice (some ⟨b65, 0, none⟩) 2 2, .slice (some ⟨b66, 0, none⟩) 2 2]) (e := 22) (by simp)).frz hz1, fun p hp => by
  simp only [List.mem_cons, List.not_mem_nil, or_false] at hp
  rcases hp with rfl | rfl
  ·exact h65
  ·exact h66⟩
 have h68 : Row S1 w1 [] (some ⟨b68, 0, none⟩) (ints [1, 2, 3, 4, 5]) := (row_own (η := [[(b71, Obj.cells #[.slice (some ⟨b58, 0, none⟩) 2 2, .slice (some ⟨b61, 0, none⟩) 2 2, .slice (some ⟨b64, 0, none⟩) 2 2, .slice (some ⟨b67, 0, none⟩) 2 2, .slice (some ⟨b70, 0, none⟩) 2 2] 32 (0, 0))], [(b70, Obj.cells #[.slice (some ⟨b68, 0, none⟩) 5 5, .slice (some ⟨b69, 0, none⟩) 5 5] 22 (0, 0))], [(b69, Obj.cells #[.int .i64 1, .int .i64 2, .int .i64 3, .int .i64 4, .int .i64 5] 3 (0, 0))], [(b68, Obj.cells #[.int .i64 1, .int .i64 2, .int .i64 3, .int .i64 4, .int .i64 5] 3 (0, 0))], [(b67, Obj.cells #[.slice (some ⟨b65, 0, none⟩) 2 2, .slice (some ⟨b66, 0, none⟩) 2 2] 22 (0, 0))], [(b66, Obj.cells #[.int .i64 1073741825, .int .i64 0] 3 (0, 0))], [(b65, Obj.cells #[.int .i64 1, .int .i64 1] 3 (0, 0))], [(b64, Obj.cells #[.slice (some ⟨b62, 0, none⟩) 2 2, .slice (some ⟨b63, 0, none⟩) 2 2] 22 (0, 0))], [(b63, Obj.cells #[.int .i64 1, .int .i64 1] 3 (0, 0))], [(b62, Obj.cells #[.int .i64 1, .int .i64 (-1)] 3 (0, 0))], [(b61, Obj.cells #[.slice (some ⟨b59, 0, none⟩) 1 1, .slice (some ⟨b60, 0, none⟩) 2 2] 22 (0, 0))], [(b60, Obj.cells #[.int .i64 1, .int .i64 2] 3 (0, 0))], [(b59, Obj.cells #[.int .i64 1] 3 (0, 0))], [(b58, Obj.cells #[.slice (some ⟨b56, 0, none⟩) 0 0, .slice (some ⟨b57, 0, none⟩) 0 0] 22 (0, 0))], [(b57, Obj.cells #[] 3 (0, 0))], [(b56, Obj.cells #[] 3 (0, 0))]]) (cs := [.int .i64 1, .int .i64 2, .int .i64 3, .int .i64 4, .int .i64 5]) (e := 3) (by simp)).frz hz1
 have h69 : Row S1 w1 [] (some ⟨b69, 0, none⟩) (ints [1, 2, 3, 4, 5]) := (row_own (η := [[(b71, Obj.cells #[.slice (some ⟨b58, 0, none⟩) 2 2, .slice (some ⟨b61, 0, none⟩) 2 2, .slice (some ⟨b64, 0, none⟩) 2 2, .slice (some ⟨b67, 0, none⟩) 2 2, .slice (some ⟨b70, 0, none⟩) 2 2] 32 (0, 0))], [(b70, Obj.cells #[.slice (some ⟨b68, 0, none⟩) 5 5, .slice (some ⟨b69, 0, none⟩) 5 5] 22 (0, 0))], [(b69, Obj.cells #[.int .i64 1, .int .i64 2, .int .i64 3, .int .i64 4, .int .i64 5] 3 (0, 0))], [(b68, Obj.cells #[.int .i64 1, .int .i64 2, .int .i64 3, .int .i64 4, .int .i64 5] 3 (0, 0))], [(b67, Obj.cells #[.slice (some ⟨b65, 0, none⟩) 2 2, .slice (some ⟨b66, 0, none⟩) 2 2] 22 (0, 0))], [(b66, Obj.cells #[.int .i64 1073741825, .int .i64 0] 3 (0, 0))], [(b65, Obj.cells #[.int .i64 1, .int .i64 1] 3 (0, 0))], [(b64, Obj.cells #[.slice (some ⟨b62, 0, none⟩) 2 2, .slice (some ⟨b63, 0, none⟩) 2 2] 22 (0, 0))], [(b63, Obj.cells #[.int .i64 1, .int .i64 1] 3 (0, 0))], [(b62, Obj.cells #[.int .i64 1, .int .i64 (-1)] 3 (0, 0))], [(b61, Obj.cells #[.slice (some ⟨b59, 0, none⟩) 1 1, .slice (some ⟨b60, 0, none⟩) 2 2] 22 (0, 0))], [(b60, Obj.cells #[.int .i64 1, .int .i64 2] 3 (0, 0))], [(b59, Obj.cells #[.int .i64 1] 3 (0, 0))], [(b58, Obj.cells #[.slice (some ⟨b56, 0, none⟩) 0 0, .slice (some ⟨b57, 0, none⟩) 0 0] 22 (0, 0))], [(b57, Obj.cells #[] 3 (0, 0))], [(b56, Obj.cells #[] 3 (0, 0))]]) (cs := [.int .i64 1, .int .i64 2, .int .i64 3, .int .i64 4, .int .i64 5]) (e := 3) (by simp)).frz hz1
 have h70 : LL S1 w1 [] (some ⟨b70, 0, none⟩) [(some ⟨b68, 0, none⟩, [1, 2, 3, 4, 5], 5), (some ⟨b69, 0, none⟩, [1, 2, 3, 4, 5], 5)] := ⟨(row_own (η := [[(b71, Obj.cells #[.slice (some ⟨b58, 0, none⟩) 2 2, .slice (some ⟨b61, 0, none⟩) 2 2, .slice (some ⟨b64, 0, none⟩) 2 2, .slice (some ⟨b67, 0, none⟩) 2 2, .slice (some ⟨b70, 0, none⟩) 2 2] 32 (0, 0))], [(b70, Obj.cells #[.slice (some ⟨b68, 0, none⟩) 5 5, .slice (some ⟨b69, 0, none⟩) 5 5] 22 (0, 0))], [(b69, Obj.cells #[.int .i64 1, .int .i64 2, .int .i64 3, .int .i64 4, .int .i64 5] 3 (0, 0))], [(b68, Obj.cells #[.int .i64 1, .int .i64 2, .int .i64 3, .int .i64 4, .int .i64 5] 3 (0, 0))], [(b67, Obj.cells #[.slice (some ⟨b65, 0, none⟩) 2 2, .slice (some ⟨b66, 0, none⟩) 2 2] 22 (0, 0))], [(b66, Obj.cells #[.int .i64 1073741825, .int .i64 0] 3 (0, 0))], [(b65, Obj.cells #[.int .i64 1, .int .i64 1] 3 (0, 0))], [(b64, Obj.cells #[.slice (some ⟨b62, 0, none⟩) 2 2, .slice (some ⟨b63, 0, none⟩) 2 2] 22 (0, 0))], [(b63, Obj.cells #[.int .i64 1, .int .i64 1] 3 (0, 0))], [(b62, Obj.cells #[.int .i64 1, .int .i64 (-1)] 3 (0, 0))], [(b61, Obj.cells #[.slice (some ⟨b59, 0, none⟩) 1 1, .slice (some ⟨b60, 0, none⟩) 2 2] 22 (0, 0))], [(b60, Obj.cells #[.int .i64 1, .int .i64 2] 3 (0, 0))], [(b59, Obj.cells #[.int .i64 1] 3 (0, 0))], [(b58, Obj.cells #[.slice (some ⟨b56, 0, none⟩) 0 0, .slice (some ⟨b57, 0, none⟩) 0 0] 22 (0, 0))], [(b57, Obj.cells #[] 3 (0, 0))], [(b56, Obj.cells #[] 3 (0, 0))]]) (cs := [.slice (some ⟨b68, 0, none⟩) 5 5, .slice (some ⟨b69, 0, none⟩) 5 5]) (e := 22) (by simp)).frz hz1, fun p hp => by
  simp only [List.mem_cons, List.not_mem_nil, or_false] at hp
  rcases hp with rfl | rfl
  ·exact h68
  ·exact h69⟩
 obtain ⟨gs, hg, hgb, hgc⟩ : ∃ gs : List GL, L3 S1 w1 [] (some ⟨b71, 0, none⟩) gs ∧ tg gs = badS ∧ ∀ g ∈ gs, g.2.2 = 2 := by
  refine ⟨[(some ⟨b58, 0, none⟩, [(some ⟨b56, 0, none⟩, [], 0), (some ⟨b57, 0, none⟩, [], 0)], 2), (some ⟨b61, 0, none⟩, [(some ⟨b59, 0, none⟩, [1], 1), (some ⟨b60, 0, none⟩, [1, 2], 2)], 2), (some ⟨b64, 0, none⟩, [(some ⟨b62, 0, none⟩, [1, -1], 2), (some ⟨b63, 0, none⟩, [1, 1], 2)], 2), (some ⟨b67, 0, none⟩, [(some ⟨b65, 0, none⟩, [1, 1], 2), (some ⟨b66, 0, none⟩, [1073741825, 0], 2)], 2), (some ⟨b70, 0, none⟩, [(some ⟨b68, 0, none⟩, [1, 2, 3, 4, 5], 5), (some ⟨b69, 0, none⟩, [1, 2, 3, 4, 5], 5)], 2)], ⟨(row_own (η := [[(b71, Obj.cells #[.slice (some ⟨b58, 0, none⟩) 2 2, .slice (some ⟨b61, 0, none⟩) 2 2, .slice (some ⟨b64, 0, none⟩) 2 2, .slice (some ⟨b67, 0, none⟩) 2 2, .slice (some ⟨b70, 0, none⟩) 2 2] 32 (0, 0))], [(b70, Obj.cells #[.slice (some ⟨b68, 0, none⟩) 5 5, .slice (some ⟨b69, 0, none⟩) 5 5] 22 (0, 0))], [(b69, Obj.cells #[.int .i64 1, .int .i64 2, .int .i64 3, .int .i64 4, .int .i64 5] 3 (0, 0))], [(b68, Obj.cells #[.int .i64 1, .int .i64 2, .int .i64 3, .int .i64 4, .int .i64 5] 3 (0, 0))], [(b67, Obj.cells #[.slice (some ⟨b65, 0, none⟩) 2 2, .slice (some ⟨b66, 0, none⟩) 2 2] 22 (0, 0))], [(b66, Obj.cells #[.int .i64 1073741825, .int .i64 0] 3 (0, 0))], [(b65, Obj.cells #[.int .i64 1, .int .i64 1] 3 (0, 0))], [(b64, Obj.cells #[.slice (some ⟨b62, 0, none⟩) 2 2, .slice (some ⟨b63, 0, none⟩) 2 2] 22 (0, 0))], [(b63, Obj.cells #[.int .i64 1, .int .i64 1] 3 (0, 0))], [(b62, Obj.cells #[.int .i64 1, .int .i64 (-1)] 3 (0, 0))], [(b61, Obj.cells #[.slice (some ⟨b59, 0, none⟩) 1 1, .slice (some ⟨b60, 0, none⟩) 2 2] 22 (0, 0))], [(b60, Obj.cells #[.int .i64 1, .int .i64 2] 3 (0, 0))], [(b59, Obj.cells #[.int .i64 1] 3 (0, 0))], [(b58, Obj.cells #[.slice (some ⟨b56, 0, none⟩) 0 0, .slice (some ⟨b57, 0, none⟩) 0 0] 22 (0, 0))], [(b57, Obj.cells #[] 3 (0, 0))], [(b56, Obj.cells #[] 3 (0, 0))]]) (cs := [.slice (some ⟨b58, 0, none⟩) 2 2, .slice (some ⟨b61, 0, none⟩) 2 2, .slice (some ⟨b64, 0, none⟩) 2 2, .slice (some ⟨b67, 0, none⟩) 2 2, .slice (some ⟨b70, 0, none⟩) 2 2]) (e := 32) (by simp)).frz hz1, fun g hg => ?_⟩, rfl, fun g hg => ?_⟩
  ·simp only [List.mem_cons, List.not_mem_nil, or_false] at hg
   rcases hg with rfl | rfl | rfl | rfl | rfl
   ·exact h58
   ·exact h61
   ·exact h64
   ·exact h67
   ·exact h70
  ·simp only [List.mem_cons, List.not_mem_nil, or_false] at hg
   rcases hg with rfl | rfl | rfl | rfl | rfl <;> rfl
 have hg5 : gs.length = 5 := by have h := congrArg List.length hgb; unfold tg badS at h; rw [List.length_map] at h; exact h
 clear h56 h57 h58 h59 h60 h61 h62 h63 h64 h65 h66 h67 h68 h69 h70
 refine TL.assign hF rfl rfl ?_
 refine TL.nil ?_
 refine TQ.then_n ?_
 refine T.seq ?_
 refine T.seq ?_
 refine T.region ?_
 refine TL.assign hF rfl rfl ?_
 refine TL.nil ?_
 refine TQ.then_n ?_
 refine T.block ?_
 clear hz1
 refine T.loop (ι := Nat) (fun i => i ≤ 5) (fun i => [(0, .bool false), (1, .slice (some ⟨b71, 0, none⟩) 5 5), (2, .int .i64 (i : Int))]) (fun _ => []) (fun i => 5 - i) 0 (Nat.zero_le _) ⟨rfl, rfl, rfl, trivial⟩ rfl ?_
 intro i hi
 refine T.seq ?_
 refine T.seq ?_
 refine T.region ?_
 refine TL.move hF rfl rfl ?_
 refine TL.move hF rfl rfl ?_
 refine TL.len hF rfl rfl ?_
 refine TL.bin hF rfl rfl rfl rfl ?_
 refine TL.nil ?_
 refine TQ.then_n ?_
 first | refine T.cond_d rfl (fun ht75 => ?_) (fun ht75 => ?_) | refine T.cond _ rfl (fun ht75 => ?_) (fun ht75 => ?_)
 ·refine T.skip ?_
  refine TQ.then_n ?_
  refine T.seq ?_
  refine T.block ?_
  refine T.seq ?_
  have hig : i < gs.length := by have h : (i : Int) < 5 := ht75; omega
  have hbd := bad_at i (by omega)
  have hgi : badS.getD i [] = tx gs[i].2.1 := by
   rw [← hgb, List.getD_eq_getElem?_getD, List.getElem?_eq_getElem (by unfold tg; rw [List.length_map]; exact hig)]
   unfold tg; rw [List.getElem_map]; rfl
  rw [hgi] at hbd
  have hq2 : gs[i].2.1.length = 2 := by rw [← tx_len]; exact hbd.len
  have hq : LL S1 w1 [] gs[i].1 gs[i].2.1 := itK hg hig
  have hgv : gc gs[i] = .slice gs[i].1 2 gs[i].2.2 := by unfold gc; rw [hq2]
  have hcap : gs[i].2.2 = 2 := hgc _ (List.getElem_mem hig)
  have hx0 : (tx gs[i].2.1).getD 0 [] = (gs[i].2.1[0]'(by omega)).2.1 := by rw [List.getD_eq_getElem?_getD, List.getElem?_eq_getElem (by rw [tx_len]; omega), Option.getD_some, tx_get (by omega)]
  have hx1 : (tx gs[i].2.1).getD 1 [] = (gs[i].2.1[1]'(by omega)).2.1 := by rw [List.getD_eq_getElem?_getD, List.getElem?_eq_getElem (by rw [tx_len]; omega), Option.getD_some, tx_get (by omega)]
  obtain ⟨_, l0, l1, b4, b6, b8, b10, b12, b14, b16, b18, b20, b22⟩ := hbd
  rw [hx0] at l0 b4 b6 b8 b16 b18
  rw [hx1] at l1 b4 b6 b8 b16 b18
  have hlx : ∀ p ∈ gs[i].2.1, p.2.1.length < 2 ^ 63 := fun p hp => by
   obtain ⟨j, hj, rfl⟩ := List.getElem_of_mem hp
   rw [hq2] at hj
   match j, hj with
   | 0, _ => omega
   | 1, _ => omega
  have hts : timesE (tx gs[i].2.1) ≠ 0 := fun h => by
   have e : widestS (tx gs[i].2.1) = (widT (sortT (tx gs[i].2.1)), 0) := if_pos h
   rw [e] at b22; cases b22
  have b16 : (beyondS (tx [gs[i].2.1[1]'(by omega)]) (gs[i].2.1[0]'(by omega)).2.1).2 = 1 := b16
  have b18 : (seenS (tx [gs[i].2.1[1]'(by omega)]) (gs[i].2.1[0]'(by omega)).2.1).2 = 1 := b18
  have hqd : (gs[i].2.1.drop 1).take (2 - 1) = [gs[i].2.1[1]'(by omega)] := by
   apply List.ext_getElem
   ·simp; omega
   ·intro k h1 h2
    have hk : k = 0 := by simp at h2; omega
    subst hk; simp
  refine T.drawH 17 mixed ?_
  refine DH.pure (i := 0) [(1, _, none)] rfl rfl rfl rfl ⟨⟨rfl, by kernel_rfl⟩, trivial⟩ (fun _ ext => TL.move hF rfl rfl TL.fin) ?_
  refine DH.pure (i := 1) [(2, _, none)] rfl rfl rfl rfl ⟨⟨rfl, by kernel_rfl⟩, trivial⟩ (fun _ ext => TL.move hF rfl rfl TL.fin) ?_
  refine DH.pure (i := 2) [(79, _, some 0), (80, _, some 1)] rfl rfl rfl rfl ⟨⟨rfl, rfl, rfl⟩, ⟨rfl, rfl, rfl⟩, trivial⟩ (fun _ ext => TL.indexAddr hF rfl rfl (hg.ad (i := i) (by omega)) (by omega) (by omega) rfl TL.fin) ?_
  refine DH.read (i := 3) [(81, _, some 2)] rfl rfl rfl rfl ⟨⟨rfl, rfl, rfl⟩, trivial⟩ (fun ext => TL.load hF rfl (v := .slice gs[i].1 2 gs[i].2.2) (by rw [← hgv]; exact (roK hg).at (i := i) hig) rfl TL.fin) ?_
  refine DH.pure (i := 4) [(82, _, some 3)] rfl rfl rfl rfl ⟨⟨rfl, rfl, rfl⟩, trivial⟩ (fun _ ext => TL.indexAddr hF rfl rfl (hq.ad (i := 0) (by omega)) (by omega) (by omega) rfl TL.fin) ?_
  refine DH.read (i := 5) [(83, _, some 4)] rfl rfl rfl rfl ⟨⟨rfl, rfl, rfl⟩, trivial⟩ (fun ext => TL.load hF rfl (hq.ro.at (i := 0) (by omega)) rfl TL.fin) ?_
  refine DH.pure (i := 6) [(1, _, none)] rfl rfl rfl rfl ⟨⟨rfl, by kernel_rfl⟩, trivial⟩ (fun _ ext => TL.move hF rfl rfl TL.fin) ?_
  refine DH.pure (i := 7) [(2, _, none)] rfl rfl rfl rfl ⟨⟨rfl, by kernel_rfl⟩, trivial⟩ (fun _ ext => TL.move hF rfl rfl TL.fin) ?_
  refine DH.pure (i := 8) [(85, _, some 6), (86, _, some 7)] rfl rfl rfl rfl ⟨⟨rfl, rfl, rfl⟩, ⟨rfl, rfl, rfl⟩, trivial⟩ (fun _ ext => TL.indexAddr hF rfl rfl (hg.ad (i := i) (by omega)) (by omega) (by omega) rfl TL.fin) ?_
  refine DH.read (i := 9) [(87, _, some 8)] rfl rfl rfl rfl ⟨⟨rfl, rfl, rfl⟩, trivial⟩ (fun ext => TL.load hF rfl (v := .slice gs[i].1 2 gs[i].2.2) (by rw [← hgv]; exact (roK hg).at (i := i) hig) rfl TL.fin) ?_
  refine DH.pure (i := 10) [(88, _, some 9)] rfl rfl rfl rfl ⟨⟨rfl, rfl, rfl⟩, trivial⟩ (fun _ ext => TL.indexAddr hF rfl rfl (hq.ad (i := 1) (by omega)) (by omega) (by omega) rfl TL.fin) ?_
  refine DH.read (i := 11) [(89, _, some 10)] rfl rfl rfl rfl ⟨⟨rfl, rfl, rfl⟩, trivial⟩ (fun ext => TL.load hF rfl (hq.ro.at (i := 1) (by omega)) rfl TL.fin) ?_
  refine DH.heavy 12 [(84, _, some 5), (90, _, some 11)] (by kernel_rfl) (by kernel_rfl) (by kernel_rfl) (by kernel_rfl) rfl rfl rfl rfl ⟨⟨rfl, rfl, rfl⟩, ⟨rfl, rfl, rfl⟩, trivial⟩ (by kernel_rfl) (fun ext => ?_)
  refine TL.call hF (Less_prog (hq.it (i := 0) (by omega)) (hq.it (i := 1) (by omega)) (by omega) (by omega)) rfl rfl ?_
  rintro _ _ ⟨rfl, segs, rfl⟩
  refine TL.hsub _ (List.sublist_append_right _ _) ?_
  refine TL.finD ?_
  refine DH.pure (i := 13) [(91, _, some 12)] rfl rfl rfl rfl ⟨⟨rfl, rfl, rfl⟩, trivial⟩ (fun _ ext => TL.move hF rfl rfl TL.fin) ?_
  refine DH.pure (i := 14) [(78, _, some 13)] rfl rfl rfl rfl ⟨⟨rfl, rfl, rfl⟩, trivial⟩ (fun _ ext => TL.extract hF rfl rfl rfl TL.fin) ?_
  refine DH.pure (i := 15) [(78, _, some 13)] rfl rfl rfl rfl ⟨⟨rfl, rfl, rfl⟩, trivial⟩ (fun _ ext => TL.extract hF rfl rfl rfl TL.fin) ?_
  refine DH.pure (i := 16) [(92, _, some 14)] rfl rfl rfl rfl ⟨⟨rfl, rfl, rfl⟩, trivial⟩ (fun _ ext => TL.assign hF rfl rfl TL.fin) ?_
  refine DH.done [(3, _), (93, _), (92, _), (78, _), (91, _), (90, _), (89, _), (88, _), (87, _), (86, _), (85, _), (84, _), (83, _), (82, _), (81, _), (80, _), (79, _)] [_] (by kernel_rfl) (by kernel_rfl) (by kernel_rfl) (by kernel_rfl) rfl rfl ?_
  refine TL.assign hF rfl rfl ?_
  refine TL.nil ?_
  refine TQ.then_n ?_
  refine T.seq ?_
  refine T.drawH 17 mixed ?_
  refine DH.pure (i := 0) [(1, _, none)] rfl rfl rfl rfl ⟨⟨rfl, by kernel_rfl⟩, trivial⟩ (fun _ ext => TL.move hF rfl rfl TL.fin) ?_
  refine DH.pure (i := 1) [(2, _, none)] rfl rfl rfl rfl ⟨⟨rfl, by kernel_rfl⟩, trivial⟩ (fun _ ext => TL.move hF rfl rfl TL.fin) ?_
  refine DH.pure (i := 2) [(95, _, some 0), (96, _, some 1)] rfl rfl rfl rfl ⟨⟨rfl, rfl, rfl⟩, ⟨rfl, rfl, rfl⟩, trivial⟩ (fun _ ext => TL.indexAddr hF rfl rfl (hg.ad (i := i) (by omega)) (by omega) (by omega) rfl TL.fin) ?_
  refine DH.read (i := 3) [(97, _, some 2)] rfl rfl rfl rfl ⟨⟨rfl, rfl, rfl⟩, trivial⟩ (fun ext => TL.load hF rfl (v := .slice gs[i].1 2 gs[i].2.2) (by rw [← hgv]; exact (roK hg).at (i := i) hig) rfl TL.fin) ?_
  refine DH.pure (i := 4) [(98, _, some 3)] rfl rfl rfl rfl ⟨⟨rfl, rfl, rfl⟩, trivial⟩ (fun _ ext => TL.indexAddr hF rfl rfl (hq.ad (i := 0) (by omega)) (by omega) (by omega) rfl TL.fin) ?_
  refine DH.read (i := 5) [(99, _, some 4)] rfl rfl rfl rfl ⟨⟨rfl, rfl, rfl⟩, trivial⟩ (fun ext => TL.load hF rfl (hq.ro.at (i := 0) (by omega)) rfl TL.fin) ?_
  refine DH.pure (i := 6) [(1, _, none)] rfl rfl rfl rfl ⟨⟨rfl, by kernel_rfl⟩, trivial⟩ (fun _ ext => TL.move hF rfl rfl TL.fin) ?_
  refine DH.pure (i := 7) [(2, _, none)] rfl rfl rfl rfl ⟨⟨rfl, by kernel_rfl⟩, trivial⟩ (fun _ ext => TL.move hF rfl rfl TL.fin) ?_
  refine DH.pure (i := 8) [(101, _, some 6), (102, _, some 7)] rfl rfl rfl rfl ⟨⟨rfl, rfl, rfl⟩, ⟨rfl, rfl, rfl⟩, trivial⟩ (fun _ ext => TL.indexAddr hF rfl rfl (hg.ad (i := i) (by omega)) (by omega) (by omega) rfl TL.fin) ?_
  refine DH.read (i := 9) [(103, _, some 8)] rfl rfl rfl rfl ⟨⟨rfl, rfl, rfl⟩, trivial⟩ (fun ext => TL.load hF rfl (v := .slice gs[i].1 2 gs[i].2.2) (by rw [← hgv]; exact (roK hg).at (i := i) hig) rfl TL.fin) ?_
  refine DH.pure (i := 10) [(104, _, some 9)] rfl rfl rfl rfl ⟨⟨rfl, rfl, rfl⟩, trivial⟩ (fun _ ext => TL.indexAddr hF rfl rfl (hq.ad (i := 1) (by omega)) (by omega) (by omega) rfl TL.fin) ?_
  refine DH.read (i := 11) [(105, _, some 10)] rfl rfl rfl rfl ⟨⟨rfl, rfl, rfl⟩, trivial⟩ (fun ext => TL.load hF rfl (hq.ro.at (i := 1) (by omega)) rfl TL.fin) ?_
  refine DH.heavy 12 [(100, _, some 5), (106, _, some 11)] (by kernel_rfl) (by kernel_rfl) (by kernel_rfl) (by kernel_rfl) rfl rfl rfl rfl ⟨⟨rfl, rfl, rfl⟩, ⟨rfl, rfl, rfl⟩, trivial⟩ (by kernel_rfl) (fun ext => ?_)
  refine TL.call hF (Meet_prog (hq.it (i := 0) (by omega)) (hq.it (i := 1) (by omega)) (by omega) (by omega)) rfl rfl ?_
  rintro _ _ ⟨da, dc, segs, rfl, -, rfl⟩
  refine TL.hsub _ (List.sublist_append_right _ _) ?_
  refine TL.finD ?_
  refine DH.pure (i := 13) [(107, _, some 12)] rfl rfl rfl rfl ⟨⟨rfl, rfl, rfl⟩, trivial⟩ (fun _ ext => TL.move hF rfl rfl TL.fin) ?_
  refine DH.pure (i := 14) [(94, _, some 13)] rfl rfl rfl rfl ⟨⟨rfl, rfl, rfl⟩, trivial⟩ (fun _ ext => TL.extract hF rfl rfl rfl TL.fin) ?_
  refine DH.pure (i := 15) [(94, _, some 13)] rfl rfl rfl rfl ⟨⟨rfl, rfl, rfl⟩, trivial⟩ (fun _ ext => TL.extract hF rfl rfl rfl TL.fin) ?_
  refine DH.pure (i := 16) [(108, _, some 14)] rfl rfl rfl rfl ⟨⟨rfl, rfl, rfl⟩, trivial⟩ (fun _ ext => TL.assign hF rfl rfl TL.fin) ?_
  refine DH.done [(5, _), (109, _), (108, _), (94, _), (107, _), (106, _), (105, _), (104, _), (103, _), (102, _), (101, _), (100, _), (99, _), (98, _), (97, _), (96, _), (95, _)] [_] (by kernel_rfl) (by kernel_rfl) (by kernel_rfl) (by kernel_rfl) rfl rfl ?_
  refine TL.assign hF rfl rfl ?_
  refine TL.nil ?_
  refine TQ.then_n ?_
  refine T.seq ?_
  refine T.drawH 17 mixed ?_
  refine DH.pure (i := 0) [(1, _, none)] rfl rfl rfl rfl ⟨⟨rfl, by kernel_rfl⟩, trivial⟩ (fun _ ext => TL.move hF rfl rfl TL.fin) ?_
  refine DH.pure (i := 1) [(2, _, none)] rfl rfl rfl rfl ⟨⟨rfl, by kernel_rfl⟩, trivial⟩ (fun _ ext => TL.move hF rfl rfl TL.fin) ?_
  refine DH.pure (i := 2) [(111, _, some 0), (112, _, some 1)] rfl rfl rfl rfl ⟨⟨rfl, rfl, rfl⟩, ⟨rfl, rfl, rfl⟩, trivial⟩ (fun _ ext => TL.indexAddr hF rfl rfl (hg.ad (i := i) (by omega)) (by omega) (by omega) rfl TL.fin) ?_
  refine DH.read (i := 3) [(113, _, some 2)] rfl rfl rfl rfl ⟨⟨rfl, rfl, rfl⟩, trivial⟩ (fun ext => TL.load hF rfl (v := .slice gs[i].1 2 gs[i].2.2) (by rw [← hgv]; exact (roK hg).at (i := i) hig) rfl TL.fin) ?_
  refine DH.pure (i := 4) [(114, _, some 3)] rfl rfl rfl rfl ⟨⟨rfl, rfl, rfl⟩, trivial⟩ (fun _ ext => TL.indexAddr hF rfl rfl (hq.ad (i := 0) (by omega)) (by omega) (by omega) rfl TL.fin) ?_
  refine DH.read (i := 5) [(115, _, some 4)] rfl rfl rfl rfl ⟨⟨rfl, rfl, rfl⟩, trivial⟩ (fun ext => TL.load hF rfl (hq.ro.at (i := 0) (by omega)) rfl TL.fin) ?_
  refine DH.pure (i := 6) [(1, _, none)] rfl rfl rfl rfl ⟨⟨rfl, by kernel_rfl⟩, trivial⟩ (fun _ ext => TL.move hF rfl rfl TL.fin) ?_
  refine DH.pure (i := 7) [(2, _, none)] rfl rfl rfl rfl ⟨⟨rfl, by kernel_rfl⟩, trivial⟩ (fun _ ext => TL.move hF rfl rfl TL.fin) ?_
  refine DH.pure (i := 8) [(117, _, some 6), (118, _, some 7)] rfl rfl rfl rfl ⟨⟨rfl, rfl, rfl⟩, ⟨rfl, rfl, rfl⟩, trivial⟩ (fun _ ext => TL.indexAddr hF rfl rfl (hg.ad (i := i) (by omega)) (by omega) (by omega) rfl TL.fin) ?_
  refine DH.read (i := 9) [(119, _, some 8)] rfl rfl rfl rfl ⟨⟨rfl, rfl, rfl⟩, trivial⟩ (fun ext => TL.load hF rfl (v := .slice gs[i].1 2 gs[i].2.2) (by rw [← hgv]; exact (roK hg).at (i := i) hig) rfl TL.fin) ?_
  refine DH.pure (i := 10) [(120, _, some 9)] rfl rfl rfl rfl ⟨⟨rfl, rfl, rfl⟩, trivial⟩ (fun _ ext => TL.indexAddr hF rfl rfl (hq.ad (i := 1) (by omega)) (by omega) (by omega) rfl TL.fin) ?_
  refine DH.read (i := 11) [(121, _, some 10)] rfl rfl rfl rfl ⟨⟨rfl, rfl, rfl⟩, trivial⟩ (fun ext => TL.load hF rfl (hq.ro.at (i := 1) (by omega)) rfl TL.fin) ?_
  refine DH.heavy 12 [(116, _, some 5), (122, _, some 11)] (by kernel_rfl) (by kernel_rfl) (by kernel_rfl) (by kernel_rfl) rfl rfl rfl rfl ⟨⟨rfl, rfl, rfl⟩, ⟨rfl, rfl, rfl⟩, trivial⟩ (by kernel_rfl) (fun ext => ?_)
  refine TL.call hF (Join_prog (hq.it (i := 0) (by omega)) (hq.it (i := 1) (by omega)) (by omega) (by omega)) rfl rfl ?_
  rintro _ _ ⟨da, dc, segs, rfl, -, rfl⟩
  refine TL.hsub _ (List.sublist_append_right _ _) ?_
  refine TL.finD ?_
  refine DH.pure (i := 13) [(123, _, some 12)] rfl rfl rfl rfl ⟨⟨rfl, rfl, rfl⟩, trivial⟩ (fun _ ext => TL.move hF rfl rfl TL.fin) ?_
  refine DH.pure (i := 14) [(110, _, some 13)] rfl rfl rfl rfl ⟨⟨rfl, rfl, rfl⟩, trivial⟩ (fun _ ext => TL.extract hF rfl rfl rfl TL.fin) ?_
  refine DH.pure (i := 15) [(110, _, some 13)] rfl rfl rfl rfl ⟨⟨rfl, rfl, rfl⟩, trivial⟩ (fun _ ext => TL.extract hF rfl rfl rfl TL.fin) ?_
  refine DH.pure (i := 16) [(124, _, some 14)] rfl rfl rfl rfl ⟨⟨rfl, rfl, rfl⟩, trivial⟩ (fun _ ext => TL.assign hF rfl rfl TL.fin) ?_
  refine DH.done [(7, _), (125, _), (124, _), (110, _), (123, _), (122, _), (121, _), (120, _), (119, _), (118, _), (117, _), (116, _), (115, _), (114, _), (113, _), (112, _), (111, _)] [_] (by kernel_rfl) (by kernel_rfl) (by kernel_rfl) (by kernel_rfl) rfl rfl ?_
  refine TL.assign hF rfl rfl ?_
  refine TL.nil ?_
  refine TQ.then_n ?_
  refine T.seq ?_
  refine T.region ?_
  refine TL.move hF rfl rfl ?_
  refine TL.move hF rfl rfl ?_
  refine TL.indexAddr hF rfl rfl (hg.ad (i := i) (by omega)) (by omega) (by omega) rfl ?_
  refine TL.load hF rfl (v := .slice gs[i].1 2 gs[i].2.2) (by rw [← hgv]; exact (roK hg).at (i := i) hig) rfl ?_
  have hcc := Sort_prog (S := S1) (w0 := w1) (η := []) (c := gs[i].2.2) hq (by omega) hlx
  rw [hq2] at hcc
  refine TL.call hF hcc rfl rfl ?_
  rintro _ _ ⟨da, dc, dp, segs, rfl, -, -, rfl⟩
  refine TL.hsub _ (List.sublist_append_right _ _) ?_
  refine TL.move hF rfl rfl ?_
  refine TL.extract hF rfl rfl rfl ?_
  refine TL.extract hF rfl rfl rfl ?_
  refine TL.assign hF rfl rfl ?_
  refine TL.assign hF rfl rfl ?_
  refine TL.nil ?_
  refine TQ.then_n ?_
  refine T.seq ?_
  refine T.region ?_
  refine TL.move hF rfl rfl ?_
  refine TL.move hF rfl rfl ?_
  refine TL.indexAddr hF rfl rfl (hg.ad (i := i) (by omega)) (by omega) (by omega) rfl ?_
  refine TL.load hF rfl (v := .slice gs[i].1 2 gs[i].2.2) (by rw [← hgv]; exact (roK hg).at (i := i) hig) rfl ?_
  have hcc := Firsts_prog (S := S1) (w0 := w1) (η := []) (c := gs[i].2.2) hq (by omega) hlx
  rw [hq2] at hcc
  refine TL.call hF hcc rfl rfl ?_
  rintro _ _ ⟨da, dc, dp, segs, rfl, -, -, rfl⟩
  refine TL.hsub _ (List.sublist_append_right _ _) ?_
  refine TL.move hF rfl rfl ?_
  refine TL.extract hF rfl rfl rfl ?_
  refine TL.extract hF rfl rfl rfl ?_
  refine TL.assign hF rfl rfl ?_
  refine TL.assign hF rfl rfl ?_
  refine TL.nil ?_
  refine TQ.then_n ?_
  refine T.seq ?_
  refine T.region ?_
  refine TL.move hF rfl rfl ?_
  refine TL.move hF rfl rfl ?_
  refine TL.indexAddr hF rfl rfl (hg.ad (i := i) (by omega)) (by omega) (by omega) rfl ?_
  refine TL.load hF rfl (v := .slice gs[i].1 2 gs[i].2.2) (by rw [← hgv]; exact (roK hg).at (i := i) hig) rfl ?_
  have hcc := Lasts_prog (S := S1) (w0 := w1) (η := []) (c := gs[i].2.2) hq (by omega) hlx
  rw [hq2] at hcc
  refine TL.call hF hcc rfl rfl ?_
  rintro _ _ ⟨da, dc, dp, segs, rfl, -, -, rfl⟩
  refine TL.hsub _ (List.sublist_append_right _ _) ?_
  refine TL.move hF rfl rfl ?_
  refine TL.extract hF rfl rfl rfl ?_
  refine TL.extract hF rfl rfl rfl ?_
  refine TL.assign hF rfl rfl ?_
  refine TL.assign hF rfl rfl ?_
  refine TL.nil ?_
  refine TQ.then_n ?_
  refine T.seq ?_
  refine T.drawH 16 mixed ?_
  refine DH.pure (i := 0) [(1, _, none)] rfl rfl rfl rfl ⟨⟨rfl, by kernel_rfl⟩, trivial⟩ (fun _ ext => TL.move hF rfl rfl TL.fin) ?_
  refine DH.pure (i := 1) [(2, _, none)] rfl rfl rfl rfl ⟨⟨rfl, by kernel_rfl⟩, trivial⟩ (fun _ ext => TL.move hF rfl rfl TL.fin) ?_
  refine DH.pure (i := 2) [(151, _, some 0), (152, _, some 1)] rfl rfl rfl rfl ⟨⟨rfl, rfl, rfl⟩, ⟨rfl, rfl, rfl⟩, trivial⟩ (fun _ ext => TL.indexAddr hF rfl rfl (hg.ad (i := i) (by omega)) (by omega) (by omega) rfl TL.fin) ?_
  refine DH.read (i := 3) [(153, _, some 2)] rfl rfl rfl rfl ⟨⟨rfl, rfl, rfl⟩, trivial⟩ (fun ext => TL.load hF rfl (v := .slice gs[i].1 2 gs[i].2.2) (by rw [← hgv]; exact (roK hg).at (i := i) hig) rfl TL.fin) ?_
  refine DH.pure (i := 4) [(154, _, some 3)] rfl rfl rfl rfl ⟨⟨rfl, rfl, rfl⟩, trivial⟩ (fun _ ext => TL.slice hF (i := 1) (j := 2) rfl rfl rfl (by omega) (by omega) rfl TL.fin) ?_
  refine DH.pure (i := 5) [(1, _, none)] rfl rfl rfl rfl ⟨⟨rfl, by kernel_rfl⟩, trivial⟩ (fun _ ext => TL.move hF rfl rfl TL.fin) ?_
  refine DH.pure (i := 6) [(2, _, none)] rfl rfl rfl rfl ⟨⟨rfl, by kernel_rfl⟩, trivial⟩ (fun _ ext => TL.move hF rfl rfl TL.fin) ?_
  refine DH.pure (i := 7) [(156, _, some 5), (157, _, some 6)] rfl rfl rfl rfl ⟨⟨rfl, rfl, rfl⟩, ⟨rfl, rfl, rfl⟩, trivial⟩ (fun _ ext => TL.indexAddr hF rfl rfl (hg.ad (i := i) (by omega)) (by omega) (by omega) rfl TL.fin) ?_
  refine DH.read (i := 8) [(158, _, some 7)] rfl rfl rfl rfl ⟨⟨rfl, rfl, rfl⟩, trivial⟩ (fun ext => TL.load hF rfl (v := .slice gs[i].1 2 gs[i].2.2) (by rw [← hgv]; exact (roK hg).at (i := i) hig) rfl TL.fin) ?_
  refine DH.pure (i := 9) [(159, _, some 8)] rfl rfl rfl rfl ⟨⟨rfl, rfl, rfl⟩, trivial⟩ (fun _ ext => TL.indexAddr hF rfl rfl (hq.ad (i := 0) (by omega)) (by omega) (by omega) rfl TL.fin) ?_
  refine DH.read (i := 10) [(160, _, some 9)] rfl rfl rfl rfl ⟨⟨rfl, rfl, rfl⟩, trivial⟩ (fun ext => TL.load hF rfl (hq.ro.at (i := 0) (by omega)) rfl TL.fin) ?_
  refine DH.heavy 11 [(155, _, some 4), (161, _, some 10)] (by kernel_rfl) (by kernel_rfl) (by kernel_rfl) (by kernel_rfl) rfl rfl rfl rfl ⟨⟨rfl, rfl, rfl⟩, ⟨rfl, rfl, rfl⟩, trivial⟩ (by kernel_rfl) (fun ext => ?_)
  have hpt := hq.part (c := gs[i].2.2) (i := 1) (j := 2) (by omega) (by omega) (by omega)
  rw [hqd] at hpt
  have hcc := Beyond_prog (S := S1) (w0 := w1) (η := []) (c := gs[i].2.2 - 1) (d := (gs[i].2.1[0]'(by omega)).2.2) hpt (hq.it (i := 0) (by omega)) (by simp) (fun p hp => by rw [List.mem_singleton.1 hp]; omega) (by omega)
  refine TL.call hF hcc rfl rfl ?_
  rintro _ _ ⟨rfl, segs, rfl⟩
  refine TL.hsub _ (List.sublist_append_right _ _) ?_
  refine TL.finD ?_
  refine DH.pure (i := 12) [(162, _, some 11)] rfl rfl rfl rfl ⟨⟨rfl, rfl, rfl⟩, trivial⟩ (fun _ ext => TL.move hF rfl rfl TL.fin) ?_
  refine DH.pure (i := 13) [(150, _, some 12)] rfl rfl rfl rfl ⟨⟨rfl, rfl, rfl⟩, trivial⟩ (fun _ ext => TL.extract hF rfl rfl rfl TL.fin) ?_
  refine DH.pure (i := 14) [(150, _, some 12)] rfl rfl rfl rfl ⟨⟨rfl, rfl, rfl⟩, trivial⟩ (fun _ ext => TL.extract hF rfl rfl rfl TL.fin) ?_
  refine DH.pure (i := 15) [(163, _, some 13)] rfl rfl rfl rfl ⟨⟨rfl, rfl, rfl⟩, trivial⟩ (fun _ ext => TL.assign hF rfl rfl TL.fin) ?_
  refine DH.done [(15, _), (164, _), (163, _), (150, _), (162, _), (161, _), (160, _), (159, _), (158, _), (157, _), (156, _), (155, _), (154, _), (153, _), (152, _), (151, _)] [_] (by kernel_rfl) (by kernel_rfl) (by kernel_rfl) (by kernel_rfl) rfl rfl ?_
  refine TL.assign hF rfl rfl ?_
  refine TL.nil ?_
  refine TQ.then_n ?_
  refine T.seq ?_
  refine T.drawH 16 mixed ?_
  refine DH.pure (i := 0) [(1, _, none)] rfl rfl rfl rfl ⟨⟨rfl, by kernel_rfl⟩, trivial⟩ (fun _ ext => TL.move hF rfl rfl TL.fin) ?_
  refine DH.pure (i := 1) [(2, _, none)] rfl rfl rfl rfl ⟨⟨rfl, by kernel_rfl⟩, trivial⟩ (fun _ ext => TL.move hF rfl rfl TL.fin) ?_
  refine DH.pure (i := 2) [(166, _, some 0), (167, _, some 1)] rfl rfl rfl rfl ⟨⟨rfl, rfl, rfl⟩, ⟨rfl, rfl, rfl⟩, trivial⟩ (fun _ ext => TL.indexAddr hF rfl rfl (hg.ad (i := i) (by omega)) (by omega) (by omega) rfl TL.fin) ?_
  refine DH.read (i := 3) [(168, _, some 2)] rfl rfl rfl rfl ⟨⟨rfl, rfl, rfl⟩, trivial⟩ (fun ext => TL.load hF rfl (v := .slice gs[i].1 2 gs[i].2.2) (by rw [← hgv]; exact (roK hg).at (i := i) hig) rfl TL.fin) ?_
  refine DH.pure (i := 4) [(169, _, some 3)] rfl rfl rfl rfl ⟨⟨rfl, rfl, rfl⟩, trivial⟩ (fun _ ext => TL.slice hF (i := 1) (j := 2) rfl rfl rfl (by omega) (by omega) rfl TL.fin) ?_
  refine DH.pure (i := 5) [(1, _, none)] rfl rfl rfl rfl ⟨⟨rfl, by kernel_rfl⟩, trivial⟩ (fun _ ext => TL.move hF rfl rfl TL.fin) ?_
  refine DH.pure (i := 6) [(2, _, none)] rfl rfl rfl rfl ⟨⟨rfl, by kernel_rfl⟩, trivial⟩ (fun _ ext => TL.move hF rfl rfl TL.fin) ?_
  refine DH.pure (i := 7) [(171, _, some 5), (172, _, some 6)] rfl rfl rfl rfl ⟨⟨rfl, rfl, rfl⟩, ⟨rfl, rfl, rfl⟩, trivial⟩ (fun _ ext => TL.indexAddr hF rfl rfl (hg.ad (i := i) (by omega)) (by omega) (by omega) rfl TL.fin) ?_
  refine DH.read (i := 8) [(173, _, some 7)] rfl rfl rfl rfl ⟨⟨rfl, rfl, rfl⟩, trivial⟩ (fun ext => TL.load hF rfl (v := .slice gs[i].1 2 gs[i].2.2) (by rw [← hgv]; exact (roK hg).at (i := i) hig) rfl TL.fin) ?_
  refine DH.pure (i := 9) [(174, _, some 8)] rfl rfl rfl rfl ⟨⟨rfl, rfl, rfl⟩, trivial⟩ (fun _ ext => TL.indexAddr hF rfl rfl (hq.ad (i := 0) (by omega)) (by omega) (by omega) rfl TL.fin) ?_
  refine DH.read (i := 10) [(175, _, some 9)] rfl rfl rfl rfl ⟨⟨rfl, rfl, rfl⟩, trivial⟩ (fun ext => TL.load hF rfl (hq.ro.at (i := 0) (by omega)) rfl TL.fin) ?_
  refine DH.heavy 11 [(170, _, some 4), (176, _, some 10)] (by kernel_rfl) (by kernel_rfl) (by kernel_rfl) (by kernel_rfl) rfl rfl rfl rfl ⟨⟨rfl, rfl, rfl⟩, ⟨rfl, rfl, rfl⟩, trivial⟩ (by kernel_rfl) (fun ext => ?_)
  have hpt := hq.part (c := gs[i].2.2) (i := 1) (j := 2) (by omega) (by omega) (by omega)
  rw [hqd] at hpt
  have hcc := Seen_prog (S := S1) (w0 := w1) (η := []) (c := gs[i].2.2 - 1) (d := (gs[i].2.1[0]'(by omega)).2.2) hpt (hq.it (i := 0) (by omega)) (by simp) (fun p hp => by rw [List.mem_singleton.1 hp]; omega) (by omega)
  refine TL.call hF hcc rfl rfl ?_
  rintro _ _ ⟨da, dc, segs, rfl, -, rfl⟩
  refine TL.hsub _ (List.sublist_append_right _ _) ?_
  refine TL.finD ?_
  refine DH.pure (i := 12) [(177, _, some 11)] rfl rfl rfl rfl ⟨⟨rfl, rfl, rfl⟩, trivial⟩ (fun _ ext => TL.move hF rfl rfl TL.fin) ?_
  refine DH.pure (i := 13) [(165, _, some 12)] rfl rfl rfl rfl ⟨⟨rfl, rfl, rfl⟩, trivial⟩ (fun _ ext => TL.extract hF rfl rfl rfl TL.fin) ?_
  refine DH.pure (i := 14) [(165, _, some 12)] rfl rfl rfl rfl ⟨⟨rfl, rfl, rfl⟩, trivial⟩ (fun _ ext => TL.extract hF rfl rfl rfl TL.fin) ?_
  refine DH.pure (i := 15) [(178, _, some 13)] rfl rfl rfl rfl ⟨⟨rfl, rfl, rfl⟩, trivial⟩ (fun _ ext => TL.assign hF rfl rfl TL.fin) ?_
  refine DH.done [(17, _), (179, _), (178, _), (165, _), (177, _), (176, _), (175, _), (174, _), (173, _), (172, _), (171, _), (170, _), (169, _), (168, _), (167, _), (166, _)] [_] (by kernel_rfl) (by kernel_rfl) (by kernel_rfl) (by kernel_rfl) rfl rfl ?_
  refine TL.assign hF rfl rfl ?_
  refine TL.nil ?_
  refine TQ.then_n ?_
  refine T.seq ?_
  refine T.region ?_
  refine TL.move hF rfl rfl ?_
  refine TL.move hF rfl rfl ?_
  refine TL.indexAddr hF rfl rfl (hg.ad (i := i) (by omega)) (by omega) (by omega) rfl ?_
  refine TL.load hF rfl (v := .slice gs[i].1 2 gs[i].2.2) (by rw [← hgv]; exact (roK hg).at (i := i) hig) rfl ?_
  have hcc := Chains_prog (S := S1) (w0 := w1) (η := []) (c := gs[i].2.2) hq (by omega) hlx
  rw [hq2] at hcc
  refine TL.call hF hcc rfl rfl ?_
  rintro _ _ ⟨da, dc, dp, segs, rfl, -, -, rfl⟩
  refine TL.hsub _ (List.sublist_append_right _ _) ?_
  refine TL.move hF rfl rfl ?_
  refine TL.extract hF rfl rfl rfl ?_
  refine TL.extract hF rfl rfl rfl ?_
  refine TL.assign hF rfl rfl ?_
  refine TL.assign hF rfl rfl ?_
  refine TL.nil ?_
  refine TQ.then_n ?_
  refine T.seq ?_
  refine T.region ?_
  refine TL.move hF rfl rfl ?_
  refine TL.move hF rfl rfl ?_
  refine TL.indexAddr hF rfl rfl (hg.ad (i := i) (by omega)) (by omega) (by omega) rfl ?_
  refine TL.load hF rfl (v := .slice gs[i].1 2 gs[i].2.2) (by rw [← hgv]; exact (roK hg).at (i := i) hig) rfl ?_
  have hcc := Widest_prog (S := S1) (w0 := w1) (η := []) (c := gs[i].2.2) hq (by omega) hlx (fun h => absurd h hts)
  rw [hq2] at hcc
  refine TL.call hF hcc rfl rfl ?_
  rintro _ _ ⟨da, dc, dp, segs, rfl, -, -, rfl⟩
  refine TL.hsub _ (List.sublist_append_right _ _) ?_
  refine TL.move hF rfl rfl ?_
  refine TL.extract hF rfl rfl rfl ?_
  refine TL.extract hF rfl rfl rfl ?_
  refine TL.assign hF rfl rfl ?_
  refine TL.assign hF rfl rfl ?_
  refine TL.nil ?_
  refine TQ.then_n ?_
  refine T.seq ?_
  refine T.region ?_
  refine TL.move hF rfl rfl ?_
  refine TL.bin hF rfl rfl rfl rfl ?_
  refine TL.move hF rfl rfl ?_
  refine TL.on rfl rfl rfl (by first | (rw [b4]; rfl) | (simp [b4]) | (simp [tx, b4])) ?_
  refine TL.move hF rfl rfl ?_
  refine TL.on rfl rfl rfl (by first | (rw [b4]; rfl) | (simp [b4]) | (simp [tx, b4])) ?_
  refine TL.bin hF rfl rfl rfl rfl ?_
  refine TL.pickF hF rfl (by first | (rw [b4]; rfl) | (simp [b4]) | (simp [tx, b4])) rfl rfl ?_
  refine TL.move hF rfl rfl ?_
  refine TL.on rfl rfl rfl (by first | (rw [b6]; rfl) | (simp [b6]) | (simp [tx, b6])) ?_
  refine TL.move hF rfl rfl ?_
  refine TL.on rfl rfl rfl (by first | (rw [b6]; rfl) | (simp [b6]) | (simp [tx, b6])) ?_
  refine TL.bin hF rfl rfl rfl rfl ?_
  refine TL.pickF hF rfl (by first | (rw [b6]; rfl) | (simp [b6]) | (simp [tx, b6])) rfl rfl ?_
  refine TL.move hF rfl rfl ?_
  refine TL.on rfl rfl rfl (by first | (rw [b8]; rfl) | (simp [b8]) | (simp [tx, b8])) ?_
  refine TL.move hF rfl rfl ?_
  refine TL.on rfl rfl rfl (by first | (rw [b8]; rfl) | (simp [b8]) | (simp [tx, b8])) ?_
  refine TL.bin hF rfl rfl rfl rfl ?_
  refine TL.pickF hF rfl (by first | (rw [b8]; rfl) | (simp [b8]) | (simp [tx, b8])) rfl rfl ?_
  refine TL.move hF rfl rfl ?_
  refine TL.on rfl rfl rfl (by first | (rw [b10]; rfl) | (simp [b10]) | (simp [tx, b10])) ?_
  refine TL.move hF rfl rfl ?_
  refine TL.on rfl rfl rfl (by first | (rw [b10]; rfl) | (simp [b10]) | (simp [tx, b10])) ?_
  refine TL.bin hF rfl rfl rfl rfl ?_
  refine TL.pickF hF rfl (by first | (rw [b10]; rfl) | (simp [b10]) | (simp [tx, b10])) rfl rfl ?_
  refine TL.move hF rfl rfl ?_
  refine TL.on rfl rfl rfl (by first | (rw [b12]; rfl) | (simp [b12]) | (simp [tx, b12])) ?_
  refine TL.move hF rfl rfl ?_
  refine TL.on rfl rfl rfl (by first | (rw [b12]; rfl) | (simp [b12]) | (simp [tx, b12])) ?_
  refine TL.bin hF rfl rfl rfl rfl ?_
  refine TL.pickF hF rfl (by first | (rw [b12]; rfl) | (simp [b12]) | (simp [tx, b12])) rfl rfl ?_
  refine TL.move hF rfl rfl ?_
  refine TL.on rfl rfl rfl (by first | (rw [b14]; rfl) | (simp [b14]) | (simp [tx, b14])) ?_
  refine TL.move hF rfl rfl ?_
  refine TL.on rfl rfl rfl (by first | (rw [b14]; rfl) | (simp [b14]) | (simp [tx, b14])) ?_
  refine TL.bin hF rfl rfl rfl rfl ?_
  refine TL.pickF hF rfl (by first | (rw [b14]; rfl) | (simp [b14]) | (simp [tx, b14])) rfl rfl ?_
  refine TL.move hF rfl rfl ?_
  refine TL.on rfl rfl rfl (by first | (rw [b16]; rfl) | (simp [b16]) | (simp [tx, b16])) ?_
  refine TL.move hF rfl rfl ?_
  refine TL.on rfl rfl rfl (by first | (rw [b16]; rfl) | (simp [b16]) | (simp [tx, b16])) ?_
  refine TL.bin hF rfl rfl rfl rfl ?_
  refine TL.pickF hF rfl (by first | (rw [b16]; rfl) | (simp [b16]) | (simp [tx, b16])) rfl rfl ?_
  refine TL.move hF rfl rfl ?_
  refine TL.on rfl rfl rfl (by first | (rw [b18]; rfl) | (simp [b18]) | (simp [tx, b18])) ?_
  refine TL.move hF rfl rfl ?_
  refine TL.on rfl rfl rfl (by first | (rw [b18]; rfl) | (simp [b18]) | (simp [tx, b18])) ?_
  refine TL.bin hF rfl rfl rfl rfl ?_
  refine TL.pickF hF rfl (by first | (rw [b18]; rfl) | (simp [b18]) | (simp [tx, b18])) rfl rfl ?_
  refine TL.move hF rfl rfl ?_
  refine TL.on rfl rfl rfl (by first | (rw [b20]; rfl) | (simp [b20]) | (simp [tx, b20])) ?_
  refine TL.move hF rfl rfl ?_
  refine TL.on rfl rfl rfl (by first | (rw [b20]; rfl) | (simp [b20]) | (simp [tx, b20])) ?_
  refine TL.bin hF rfl rfl rfl rfl ?_
  refine TL.pickF hF rfl (by first | (rw [b20]; rfl) | (simp [b20]) | (simp [tx, b20])) rfl rfl ?_
  refine TL.nil ?_
  refine TQ.then_n ?_
  refine T.cond_f rfl (by first | (rw [b22]; rfl) | simp [b22]) ?_
  refine T.skip ?_
  refine TQ.block_n ?_
  refine TQ.then_n ?_
  refine T.region ?_
  refine TL.move hF rfl rfl ?_
  refine TL.add hF rfl rfl (by omega) (by omega) rfl ?_
  refine TL.assign hF rfl rfl ?_
  refine TL.nil ?_
  exact TQ.round (i + 1) (by omega) (by omega) ⟨rfl, rfl, rfl, trivial⟩ rfl
 ·refine T.exit ?_
  refine TQ.then_x ?_
  refine TQ.then_x ?_
  refine TQ.block_x ?_
  refine TQ.then_n ?_
  refine T.seq ?_
  refine T.region ?_
  refine TL.makeSlice hF (k := 201) rfl rfl rfl (by omega) (by omega) rfl (fun b234 => ?_)
  refine TL.assign hF rfl rfl ?_
  refine TL.nil ?_
  refine TQ.then_n ?_
  refine T.seq ?_
  refine T.region ?_
  refine TL.move hF rfl rfl ?_
  refine TL.freeze [[(b234, Obj.cells (List.replicate 201 (Value.slice none 0 0)).toArray 22 (0, 0))]] rfl (fun S2 w2 hz2 => ?_)
  replace hb := hb.frz hz2
  have hlong : LL S2 w2 [] (some ⟨b234, 0, none⟩) longP := ⟨by rw [longP_hc]; exact (row_own (η := [[(b234, Obj.cells (List.replicate 201 (Value.slice none 0 0)).toArray 22 (0, 0))]]) (e := 22) List.mem_cons_self).frz hz2, fun p hp => by rw [List.eq_of_mem_replicate hp]; exact Row.none⟩
  have hcc := Sort_prog (S := S2) (w0 := w2) (η := []) (c := 201) hlong (by rw [longP_len]; omega) longP_lt
  rw [longP_len] at hcc
  refine TL.call hF hcc rfl rfl ?_
  rintro _ _ h
  obtain ⟨da, dc, dp, segs, rfl, -, -, rfl⟩ := h.lit (show sortS (tx longP) = ([], 3) by decide +kernel)
  refine TL.hsub _ (List.sublist_append_right _ _) ?_
  refine TL.move hF rfl rfl ?_
  refine TL.extract hF rfl rfl rfl ?_
  refine TL.extract hF rfl rfl rfl ?_
  refine TL.assign hF rfl rfl ?_
  refine TL.assign hF rfl rfl ?_
  refine TL.nil ?_
  refine TQ.then_n ?_
  refine T.seq ?_
  refine T.region ?_
  refine TL.move hF rfl rfl ?_
  have hcc := Beyond_prog (S := S2) (w0 := w2) (η := []) (c := 201) (d := 0) (t := []) hlong Row.none (by rw [longP_len]; omega) longP_lt (by simp)
  rw [longP_len] at hcc
  refine TL.call hF hcc rfl rfl ?_
  rintro _ _ h
  obtain ⟨rfl, segs, rfl⟩ := h.lit (show beyondS (tx longP) [] = (false, 3) by decide +kernel)
  refine TL.hsub _ (List.sublist_append_right _ _) ?_
  refine TL.move hF rfl rfl ?_
  refine TL.extract hF rfl rfl rfl ?_
  refine TL.extract hF rfl rfl rfl ?_
  refine TL.assign hF rfl rfl ?_
  refine TL.assign hF rfl rfl ?_
  refine TL.nil ?_
  refine TQ.then_n ?_
  refine T.seq ?_
  refine T.region ?_
  refine TL.move hF rfl rfl ?_
  have hcc := Either_prog (S := S2) (w0 := w2) (η := []) (a := none) (c := 0) (d := 201) (ps := []) LL.none hlong (by simp) (by rw [longP_len]; omega) (by simp) longP_lt
  rw [longP_len] at hcc
  refine TL.call hF hcc rfl rfl ?_
  rintro _ _ h
  obtain ⟨da, dc, dp, segs, rfl, -, -, rfl⟩ := h.lit (show eitherS [] (tx longP) = ([], 3) by decide +kernel)
  refine TL.hsub _ (List.sublist_append_right _ _) ?_
  refine TL.move hF rfl rfl ?_
  refine TL.extract hF rfl rfl rfl ?_
  refine TL.extract hF rfl rfl rfl ?_
  refine TL.assign hF rfl rfl ?_
  refine TL.assign hF rfl rfl ?_
  refine TL.nil ?_
  refine TQ.then_n ?_
  refine T.seq ?_
  refine T.region ?_
  refine TL.buildSlice hF rfl (cs := #[.int .i64 2, .int .i64 1]) (e := 3) (fun w => by kernel_rfl) rfl (fun b251 => ?_)
  refine TL.buildSlice hF rfl (cs := #[.int .i64 1, .int .i64 2]) (e := 3) (fun w => by kernel_rfl) rfl (fun b252 => ?_)
  refine TL.buildSlice hF rfl (cs := #[.slice (some ⟨b251, 0, none⟩) 2 2, .slice (some ⟨b252, 0, none⟩) 2 2]) (e := 22) (fun w => by kernel_rfl) rfl (fun b253 => ?_)
  refine TL.buildSlice hF rfl (cs := #[.int .i64 3, .int .i64 3]) (e := 3) (fun w => by kernel_rfl) rfl (fun b254 => ?_)
  refine TL.callV hF (at_fn) rfl rfl ?_
  refine TL.freeze ([[(b254, Obj.cells #[.int .i64 3, .int .i64 3] 3 (0, 0))], [(b253, Obj.cells #[.slice (some ⟨b251, 0, none⟩) 2 2, .slice (some ⟨b252, 0, none⟩) 2 2] 22 (0, 0))], [(b252, Obj.cells #[.int .i64 1, .int .i64 2] 3 (0, 0))], [(b251, Obj.cells #[.int .i64 2, .int .i64 1] 3 (0, 0))]]) rfl (fun S3 w3 hz3 => ?_)
  replace hb := hb.frz hz3
  have h251 : Row S3 w3 [] (some ⟨b251, 0, none⟩) (ints [2, 1]) := (row_own (η := [[(b254, Obj.cells #[.int .i64 3, .int .i64 3] 3 (0, 0))], [(b253, Obj.cells #[.slice (some ⟨b251, 0, none⟩) 2 2, .slice (some ⟨b252, 0, none⟩) 2 2] 22 (0, 0))], [(b252, Obj.cells #[.int .i64 1, .int .i64 2] 3 (0, 0))], [(b251, Obj.cells #[.int .i64 2, .int .i64 1] 3 (0, 0))]]) (cs := [.int .i64 2, .int .i64 1]) (e := 3) (by simp)).frz hz3
  have h252 : Row S3 w3 [] (some ⟨b252, 0, none⟩) (ints [1, 2]) := (row_own (η := [[(b254, Obj.cells #[.int .i64 3, .int .i64 3] 3 (0, 0))], [(b253, Obj.cells #[.slice (some ⟨b251, 0, none⟩) 2 2, .slice (some ⟨b252, 0, none⟩) 2 2] 22 (0, 0))], [(b252, Obj.cells #[.int .i64 1, .int .i64 2] 3 (0, 0))], [(b251, Obj.cells #[.int .i64 2, .int .i64 1] 3 (0, 0))]]) (cs := [.int .i64 1, .int .i64 2]) (e := 3) (by simp)).frz hz3
  have h253 : LL S3 w3 [] (some ⟨b253, 0, none⟩) [(some ⟨b251, 0, none⟩, [2, 1], 2), (some ⟨b252, 0, none⟩, [1, 2], 2)] := ⟨(row_own (η := [[(b254, Obj.cells #[.int .i64 3, .int .i64 3] 3 (0, 0))], [(b253, Obj.cells #[.slice (some ⟨b251, 0, none⟩) 2 2, .slice (some ⟨b252, 0, none⟩) 2 2] 22 (0, 0))], [(b252, Obj.cells #[.int .i64 1, .int .i64 2] 3 (0, 0))], [(b251, Obj.cells #[.int .i64 2, .int .i64 1] 3 (0, 0))]]) (cs := [.slice (some ⟨b251, 0, none⟩) 2 2, .slice (some ⟨b252, 0, none⟩) 2 2]) (e := 22) (by simp)).frz hz3, fun p hp => by
   simp only [List.mem_cons, List.not_mem_nil, or_false] at hp
   rcases hp with rfl | rfl
   ·exact h251
   ·exact h252⟩
  have h254 : Row S3 w3 [] (some ⟨b254, 0, none⟩) (ints [3, 3]) := (row_own (η := [[(b254, Obj.cells #[.int .i64 3, .int .i64 3] 3 (0, 0))], [(b253, Obj.cells #[.slice (some ⟨b251, 0, none⟩) 2 2, .slice (some ⟨b252, 0, none⟩) 2 2] 22 (0, 0))], [(b252, Obj.cells #[.int .i64 1, .int .i64 2] 3 (0, 0))], [(b251, Obj.cells #[.int .i64 2, .int .i64 1] 3 (0, 0))]]) (cs := [.int .i64 3, .int .i64 3]) (e := 3) (by simp)).frz hz3
  refine TL.call hF (Beyond_prog h253 h254 (by simp) (by simp) (by simp)) rfl rfl ?_
  rintro _ _ h
  obtain ⟨rfl, segs, rfl⟩ := h.lit (show beyondS [[2, 1], [1, 2]] [3, 3] = (false, 1) by decide +kernel)
  refine TL.hsub _ (List.sublist_append_right _ _) ?_
  refine TL.move hF rfl rfl ?_
  refine TL.extract hF rfl rfl rfl ?_
  refine TL.extract hF rfl rfl rfl ?_
  refine TL.assign hF rfl rfl ?_
  refine TL.assign hF rfl rfl ?_
  refine TL.nil ?_
  refine TQ.then_n ?_
  refine T.seq ?_
  refine T.region ?_
  refine TL.buildSlice hF rfl (cs := #[.int .i64 1, .int .i64 1]) (e := 3) (fun w => by kernel_rfl) rfl (fun b260 => ?_)
  refine TL.buildSlice hF rfl (cs := #[.slice (some ⟨b260, 0, none⟩) 2 2]) (e := 22) (fun w => by kernel_rfl) rfl (fun b261 => ?_)
  refine TL.buildSlice hF rfl (cs := #[.int .i64 1, .int .i64 1]) (e := 3) (fun w => by kernel_rfl) rfl (fun b262 => ?_)
  refine TL.buildSlice hF rfl (cs := #[.int .i64 1, .int .i64 2]) (e := 3) (fun w => by kernel_rfl) rfl (fun b263 => ?_)
  refine TL.buildSlice hF rfl (cs := #[.slice (some ⟨b262, 0, none⟩) 2 2, .slice (some ⟨b263, 0, none⟩) 2 2]) (e := 22) (fun w => by kernel_rfl) rfl (fun b264 => ?_)
  refine TL.freeze ([[(b264, Obj.cells #[.slice (some ⟨b262, 0, none⟩) 2 2, .slice (some ⟨b263, 0, none⟩) 2 2] 22 (0, 0))], [(b263, Obj.cells #[.int .i64 1, .int .i64 2] 3 (0, 0))], [(b262, Obj.cells #[.int .i64 1, .int .i64 1] 3 (0, 0))], [(b261, Obj.cells #[.slice (some ⟨b260, 0, none⟩) 2 2] 22 (0, 0))], [(b260, Obj.cells #[.int .i64 1, .int .i64 1] 3 (0, 0))]]) rfl (fun S4 w4 hz4 => ?_)
  replace hb := hb.frz hz4
  have h260 : Row S4 w4 [] (some ⟨b260, 0, none⟩) (ints [1, 1]) := (row_own (η := [[(b264, Obj.cells #[.slice (some ⟨b262, 0, none⟩) 2 2, .slice (some ⟨b263, 0, none⟩) 2 2] 22 (0, 0))], [(b263, Obj.cells #[.int .i64 1, .int .i64 2] 3 (0, 0))], [(b262, Obj.cells #[.int .i64 1, .int .i64 1] 3 (0, 0))], [(b261, Obj.cells #[.slice (some ⟨b260, 0, none⟩) 2 2] 22 (0, 0))], [(b260, Obj.cells #[.int .i64 1, .int .i64 1] 3 (0, 0))]]) (cs := [.int .i64 1, .int .i64 1]) (e := 3) (by simp)).frz hz4
  have h261 : LL S4 w4 [] (some ⟨b261, 0, none⟩) [(some ⟨b260, 0, none⟩, [1, 1], 2)] := ⟨(row_own (η := [[(b264, Obj.cells #[.slice (some ⟨b262, 0, none⟩) 2 2, .slice (some ⟨b263, 0, none⟩) 2 2] 22 (0, 0))], [(b263, Obj.cells #[.int .i64 1, .int .i64 2] 3 (0, 0))], [(b262, Obj.cells #[.int .i64 1, .int .i64 1] 3 (0, 0))], [(b261, Obj.cells #[.slice (some ⟨b260, 0, none⟩) 2 2] 22 (0, 0))], [(b260, Obj.cells #[.int .i64 1, .int .i64 1] 3 (0, 0))]]) (cs := [.slice (some ⟨b260, 0, none⟩) 2 2]) (e := 22) (by simp)).frz hz4, fun p hp => by
   simp only [List.mem_cons, List.not_mem_nil, or_false] at hp
   subst hp
   exact h260⟩
  have h262 : Row S4 w4 [] (some ⟨b262, 0, none⟩) (ints [1, 1]) := (row_own (η := [[(b264, Obj.cells #[.slice (some ⟨b262, 0, none⟩) 2 2, .slice (some ⟨b263, 0, none⟩) 2 2] 22 (0, 0))], [(b263, Obj.cells #[.int .i64 1, .int .i64 2] 3 (0, 0))], [(b262, Obj.cells #[.int .i64 1, .int .i64 1] 3 (0, 0))], [(b261, Obj.cells #[.slice (some ⟨b260, 0, none⟩) 2 2] 22 (0, 0))], [(b260, Obj.cells #[.int .i64 1, .int .i64 1] 3 (0, 0))]]) (cs := [.int .i64 1, .int .i64 1]) (e := 3) (by simp)).frz hz4
  have h263 : Row S4 w4 [] (some ⟨b263, 0, none⟩) (ints [1, 2]) := (row_own (η := [[(b264, Obj.cells #[.slice (some ⟨b262, 0, none⟩) 2 2, .slice (some ⟨b263, 0, none⟩) 2 2] 22 (0, 0))], [(b263, Obj.cells #[.int .i64 1, .int .i64 2] 3 (0, 0))], [(b262, Obj.cells #[.int .i64 1, .int .i64 1] 3 (0, 0))], [(b261, Obj.cells #[.slice (some ⟨b260, 0, none⟩) 2 2] 22 (0, 0))], [(b260, Obj.cells #[.int .i64 1, .int .i64 1] 3 (0, 0))]]) (cs := [.int .i64 1, .int .i64 2]) (e := 3) (by simp)).frz hz4
  have h264 : LL S4 w4 [] (some ⟨b264, 0, none⟩) [(some ⟨b262, 0, none⟩, [1, 1], 2), (some ⟨b263, 0, none⟩, [1, 2], 2)] := ⟨(row_own (η := [[(b264, Obj.cells #[.slice (some ⟨b262, 0, none⟩) 2 2, .slice (some ⟨b263, 0, none⟩) 2 2] 22 (0, 0))], [(b263, Obj.cells #[.int .i64 1, .int .i64 2] 3 (0, 0))], [(b262, Obj.cells #[.int .i64 1, .int .i64 1] 3 (0, 0))], [(b261, Obj.cells #[.slice (some ⟨b260, 0, none⟩) 2 2] 22 (0, 0))], [(b260, Obj.cells #[.int .i64 1, .int .i64 1] 3 (0, 0))]]) (cs := [.slice (some ⟨b262, 0, none⟩) 2 2, .slice (some ⟨b263, 0, none⟩) 2 2]) (e := 22) (by simp)).frz hz4, fun p hp => by
   simp only [List.mem_cons, List.not_mem_nil, or_false] at hp
   rcases hp with rfl | rfl
   ·exact h262
   ·exact h263⟩
  refine TL.call hF (Ahead_prog h261 h264 (by simp) (by simp) (by simp) (by simp)) rfl rfl ?_
  rintro _ _ h
  obtain ⟨rfl, segs, rfl⟩ := h.lit (show aheadS [[1, 1]] [[1, 1], [1, 2]] = (false, 1) by decide +kernel)
  refine TL.hsub _ (List.sublist_append_right _ _) ?_
  refine TL.move hF rfl rfl ?_
  refine TL.extract hF rfl rfl rfl ?_
  refine TL.extract hF rfl rfl rfl ?_
  refine TL.assign hF rfl rfl ?_
  refine TL.assign hF rfl rfl ?_
  refine TL.nil ?_
  refine TQ.then_n ?_
  refine T.seq ?_
  refine T.region ?_
  refine TL.buildSlice hF rfl (cs := #[.int .i64 1, .int .i64 1]) (e := 3) (fun w => by kernel_rfl) rfl (fun b269 => ?_)
  refine TL.buildSlice hF rfl (cs := #[.int .i64 1, .int .i64 1]) (e := 3) (fun w => by kernel_rfl) rfl (fun b270 => ?_)
  refine TL.buildSlice hF rfl (cs := #[.slice (some ⟨b269, 0, none⟩) 2 2, .slice (some ⟨b270, 0, none⟩) 2 2]) (e := 22) (fun w => by kernel_rfl) rfl (fun b271 => ?_)
  refine TL.freeze ([[(b271, Obj.cells #[.slice (some ⟨b269, 0, none⟩) 2 2, .slice (some ⟨b270, 0, none⟩) 2 2] 22 (0, 0))], [(b270, Obj.cells #[.int .i64 1, .int .i64 1] 3 (0, 0))], [(b269, Obj.cells #[.int .i64 1, .int .i64 1] 3 (0, 0))]]) rfl (fun S5 w5 hz5 => ?_)
  replace hb := hb.frz hz5
  have h269 : Row S5 w5 [] (some ⟨b269, 0, none⟩) (ints [1, 1]) := (row_own (η := [[(b271, Obj.cells #[.slice (some ⟨b269, 0, none⟩) 2 2, .slice (some ⟨b270, 0, none⟩) 2 2] 22 (0, 0))], [(b270, Obj.cells #[.int .i64 1, .int .i64 1] 3 (0, 0))], [(b269, Obj.cells #[.int .i64 1, .int .i64 1] 3 (0, 0))]]) (cs := [.int .i64 1, .int .i64 1]) (e := 3) (by simp)).frz hz5
  have h270 : Row S5 w5 [] (some ⟨b270, 0, none⟩) (ints [1, 1]) := (row_own (η := [[(b271, Obj.cells #[.slice (some ⟨b269, 0, none⟩) 2 2, .slice (some ⟨b270, 0, none⟩) 2 2] 22 (0, 0))], [(b270, Obj.cells #[.int .i64 1, .int .i64 1] 3 (0, 0))], [(b269, Obj.cells #[.int .i64 1, .int .i64 1] 3 (0, 0))]]) (cs := [.int .i64 1, .int .i64 1]) (e := 3) (by simp)).frz hz5
  have h271 : LL S5 w5 [] (some ⟨b271, 0, none⟩) [(some ⟨b269, 0, none⟩, [1, 1], 2), (some ⟨b270, 0, none⟩, [1, 1], 2)] := ⟨(row_own (η := [[(b271, Obj.cells #[.slice (some ⟨b269, 0, none⟩) 2 2, .slice (some ⟨b270, 0, none⟩) 2 2] 22 (0, 0))], [(b270, Obj.cells #[.int .i64 1, .int .i64 1] 3 (0, 0))], [(b269, Obj.cells #[.int .i64 1, .int .i64 1] 3 (0, 0))]]) (cs := [.slice (some ⟨b269, 0, none⟩) 2 2, .slice (some ⟨b270, 0, none⟩) 2 2]) (e := 22) (by simp)).frz hz5, fun p hp => by
   simp only [List.mem_cons, List.not_mem_nil, or_false] at hp
   rcases hp with rfl | rfl
   ·exact h269
   ·exact h270⟩
  refine TL.call hF (Both_prog (rs := []) h271 LL.none (by simp) (by simp) (by simp) (by simp)) rfl rfl ?_
  rintro _ _ h
  obtain ⟨da, dc, dp, segs, rfl, -, -, rfl⟩ := h.lit (show bothS [[1, 1], [1, 1]] [] = ([], 1) by decide +kernel)
  refine TL.hsub _ (List.sublist_append_right _ _) ?_
  refine TL.move hF rfl rfl ?_
  refine TL.extract hF rfl rfl rfl ?_
  refine TL.extract hF rfl rfl rfl ?_
  refine TL.assign hF rfl rfl ?_
  refine TL.assign hF rfl rfl ?_
  refine TL.nil ?_
  refine TQ.then_n ?_
  refine T.seq ?_
  refine T.region ?_
  refine TL.call hF (Sums_prog (sizes := []) (l := []) Row.none Row.none (by simp) (by simp) (by intro x hx; simp at hx)) rfl rfl ?_
  rintro _ _ h
  obtain ⟨da, dc, segs, rfl, -, rfl⟩ := h.lit (show sumsP [] [] = ([], 1) by decide +kernel)
  refine TL.hsub _ (List.sublist_append_right _ _) ?_
  refine TL.move hF rfl rfl ?_
  refine TL.extract hF rfl rfl rfl ?_
  refine TL.extract hF rfl rfl rfl ?_
  refine TL.assign hF rfl rfl ?_
  refine TL.assign hF rfl rfl ?_
  refine TL.nil ?_
  refine TQ.then_n ?_
  refine T.seq ?_
  refine T.region ?_
  refine TL.buildSlice hF rfl (cs := #[.int .i64 2, .int .i64 0]) (e := 3) (fun w => by kernel_rfl) rfl (fun b280 => ?_)
  refine TL.callV hF (at_fn) rfl rfl ?_
  refine TL.freeze ([[(b280, Obj.cells #[.int .i64 2, .int .i64 0] 3 (0, 0))]]) rfl (fun S6 w6 hz6 => ?_)
  replace hb := hb.frz hz6
  have h280 : Row S6 w6 [] (some ⟨b280, 0, none⟩) (ints [2, 0]) := (row_own (η := [[(b280, Obj.cells #[.int .i64 2, .int .i64 0] 3 (0, 0))]]) (cs := [.int .i64 2, .int .i64 0]) (e := 3) (by simp)).frz hz6
  refine TL.call hF (Sums_prog (l := []) h280.ro Row.none (by simp) (by simp) (by intro x hx; simp at hx)) rfl rfl ?_
  rintro _ _ h
  obtain ⟨da, dc, segs, rfl, -, rfl⟩ := h.lit (show sumsP [2, 0] [] = ([], 1) by decide +kernel)
  refine TL.hsub _ (List.sublist_append_right _ _) ?_
  refine TL.move hF rfl rfl ?_
  refine TL.extract hF rfl rfl rfl ?_
  refine TL.extract hF rfl rfl rfl ?_
  refine TL.assign hF rfl rfl ?_
  refine TL.assign hF rfl rfl ?_
  refine TL.nil ?_
  refine TQ.then_n ?_
  refine T.cut (ι := Unit) (fun _ => True) (fun _ => [(0, .bool false), (25, .int .i64 3), (27, .int .i64 3), (29, .int .i64 3), (31, .int .i64 1), (33, .int .i64 1), (35, .int .i64 1), (37, .int .i64 1), (39, .int .i64 1), (41, .int .i64 1)]) (fun _ => []) ?_ ?_
  ·refine T.drawH 8 mixed ?_
   refine DH.heavy2 (h1 := 0) (h2 := 2) (by kernel_rfl) (by kernel_rfl) (by kernel_rfl) (by kernel_rfl) ⟨_, _, [], rfl, rfl, rfl, rfl, trivial, by kernel_rfl, fun ext => ?_⟩ ⟨_, _, [], rfl, rfl, rfl, rfl, trivial, by kernel_rfl, fun ext => ?_⟩
   ·refine TL.buildSlice hF rfl (cs := #[.int .i64 64, .int .i64 65]) (e := 3) (fun w => by kernel_rfl) rfl (fun b286 => ?_)
    refine TL.finD ?_
    refine DH.read (i := 1) [(286, _, some 0)] rfl rfl rfl rfl ⟨⟨rfl, rfl, rfl⟩, trivial⟩ (fun ext => TL.callV hF (at_fn) rfl rfl TL.fin) ?_
    refine DH.k1 (by kernel_rfl) (by kernel_rfl) (by kernel_rfl) (by kernel_rfl) (HBK.mk (h := 2) [1] [] rfl rfl rfl trivial (by kernel_rfl) (fun ext => ?_))
    refine TL.makeSlice hF (k := 4160) rfl rfl rfl (by omega) (by omega) rfl (fun b288 => ?_)
    generalize hrep : List.replicate 4160 (Value.int .i64 0) = cs0
    refine TL.finK ⟨⟨_, rfl, _, _, [(286, _, some 0)], rfl, rfl, ⟨⟨rfl, rfl, rfl⟩, trivial⟩, fun ext => TL.callV hF (at_fn) rfl rfl TL.fin⟩, trivial⟩ ?_
    refine DH.heavy 3 [(287, _, some 1), (288, _, some 2)] (by kernel_rfl) (by kernel_rfl) (by kernel_rfl) (by kernel_rfl) rfl rfl rfl rfl ⟨⟨rfl, rfl, rfl⟩, ⟨rfl, rfl, rfl⟩, trivial⟩ (by kernel_rfl) (fun ext => ?_)
    have hr2 := row_own (S := S6) (w0 := w6) (η := [[(b288, Obj.cells cs0.toArray 3 (0, 0))], [(b286, Obj.cells #[.int .i64 64, .int .i64 65] 3 (0, 0))]]) (b := b288) (cs := cs0) (e := 3) (by simp)
    have hr1 := row_own (S := S6) (w0 := w6) (η := [[(b288, Obj.cells cs0.toArray 3 (0, 0))], [(b286, Obj.cells #[.int .i64 64, .int .i64 65] 3 (0, 0))]]) (b := b286) (cs := [.int .i64 64, .int .i64 65]) (e := 3) (by simp)
    have hr3 : Row S6 w6 ([[(b288, Obj.cells cs0.toArray 3 (0, 0))], [(b286, Obj.cells #[.int .i64 64, .int .i64 65] 3 (0, 0))]]) (some ⟨b288, 0, none⟩) (ints (List.replicate 4160 0)) := by rw [ints_rep, hrep]; exact hr2
    have hcc := Sums_prog (sizes := [64, 65]) (l := List.replicate 4160 0) (c := 2) (d := 4160) hr1 hr3 (by simp) (by rw [List.length_replicate]; omega) (fun x hx => by rw [List.eq_of_mem_replicate hx]; omega)
    rw [List.length_replicate] at hcc
    refine TL.call hF hcc rfl rfl ?_
    rintro _ _ h
    obtain ⟨da, dc, segs, rfl, -, rfl⟩ := h.lit big_box
    refine TL.hsub [] (List.nil_sublist _) ?_
    refine TL.finD ?_
    refine DH.pure (i := 4) [(289, _, some 3)] rfl rfl rfl rfl ⟨⟨rfl, rfl, rfl⟩, trivial⟩ (fun _ ext => TL.move hF rfl rfl TL.fin) ?_
    refine DH.pure (i := 5) [(285, _, some 4)] rfl rfl rfl rfl ⟨⟨rfl, rfl, rfl⟩, trivial⟩ (fun _ ext => TL.extract hF rfl rfl rfl TL.fin) ?_
    refine DH.pure (i := 6) [(285, _, some 4)] rfl rfl rfl rfl ⟨⟨rfl, rfl, rfl⟩, trivial⟩ (fun _ ext => TL.extract hF rfl rfl rfl TL.fin) ?_
    refine DH.pure (i := 7) [(290, _, some 5)] rfl rfl rfl rfl ⟨⟨rfl, rfl, rfl⟩, trivial⟩ (fun _ ext => TL.assign hF rfl rfl TL.fin) ?_
    refine DH.done [(40, _), (291, _), (290, _), (285, _), (289, _), (288, _), (287, _), (286, _)] [_] (by kernel_rfl) (by kernel_rfl) (by kernel_rfl) (by kernel_rfl) rfl rfl ?_
    refine TL.assign hF rfl rfl ?_
    refine TL.nil ?_
    exact TQ.cut () trivial ⟨rfl, rfl, rfl, rfl, rfl, rfl, rfl, rfl, rfl, rfl, trivial⟩ rfl
   ·refine TL.makeSlice hF (k := 4160) rfl rfl rfl (by omega) (by omega) rfl (fun b288 => ?_)
    generalize hrep : List.replicate 4160 (Value.int .i64 0) = cs0
    refine TL.finD ?_
    refine DH.heavy 0 [] (by kernel_rfl) (by kernel_rfl) (by kernel_rfl) (by kernel_rfl) rfl rfl rfl rfl trivial (by kernel_rfl) (fun ext => ?_)
    refine TL.buildSlice hF rfl (cs := #[.int .i64 64, .int .i64 65]) (e := 3) (fun w => by kernel_rfl) rfl (fun b286 => ?_)
    refine TL.finD ?_
    refine DH.read (i := 1) [(286, _, some 0)] rfl rfl rfl rfl ⟨⟨rfl, rfl, rfl⟩, trivial⟩ (fun ext => TL.callV hF (at_fn) rfl rfl TL.fin) ?_
    refine DH.heavy 3 [(287, _, some 1), (288, _, some 2)] (by kernel_rfl) (by kernel_rfl) (by kernel_rfl) (by kernel_rfl) rfl rfl rfl rfl ⟨⟨rfl, rfl, rfl⟩, ⟨rfl, rfl, rfl⟩, trivial⟩ (by kernel_rfl) (fun ext => ?_)
    have hr2 := row_own (S := S6) (w0 := w6) (η := [[(b286, Obj.cells #[.int .i64 64, .int .i64 65] 3 (0, 0))], [(b288, Obj.cells cs0.toArray 3 (0, 0))]]) (b := b288) (cs := cs0) (e := 3) (by simp)
    have hr1 := row_own (S := S6) (w0 := w6) (η := [[(b286, Obj.cells #[.int .i64 64, .int .i64 65] 3 (0, 0))], [(b288, Obj.cells cs0.toArray 3 (0, 0))]]) (b := b286) (cs := [.int .i64 64, .int .i64 65]) (e := 3) (by simp)
    have hr3 : Row S6 w6 ([[(b286, Obj.cells #[.int .i64 64, .int .i64 65] 3 (0, 0))], [(b288, Obj.cells cs0.toArray 3 (0, 0))]]) (some ⟨b288, 0, none⟩) (ints (List.replicate 4160 0)) := by rw [ints_rep, hrep]; exact hr2
    have hcc := Sums_prog (sizes := [64, 65]) (l := List.replicate 4160 0) (c := 2) (d := 4160) hr1 hr3 (by simp) (by rw [List.length_replicate]; omega) (fun x hx => by rw [List.eq_of_mem_replicate hx]; omega)
    rw [List.length_replicate] at hcc
    refine TL.call hF hcc rfl rfl ?_
    rintro _ _ h
    obtain ⟨da, dc, segs, rfl, -, rfl⟩ := h.lit big_box
    refine TL.hsub [] (List.nil_sublist _) ?_
    refine TL.finD ?_
    refine DH.pure (i := 4) [(289, _, some 3)] rfl rfl rfl rfl ⟨⟨rfl, rfl, rfl⟩, trivial⟩ (fun _ ext => TL.move hF rfl rfl TL.fin) ?_
    refine DH.pure (i := 5) [(285, _, some 4)] rfl rfl rfl rfl ⟨⟨rfl, rfl, rfl⟩, trivial⟩ (fun _ ext => TL.extract hF rfl rfl rfl TL.fin) ?_
    refine DH.pure (i := 6) [(285, _, some 4)] rfl rfl rfl rfl ⟨⟨rfl, rfl, rfl⟩, trivial⟩ (fun _ ext => TL.extract hF rfl rfl rfl TL.fin) ?_
    refine DH.pure (i := 7) [(290, _, some 5)] rfl rfl rfl rfl ⟨⟨rfl, rfl, rfl⟩, trivial⟩ (fun _ ext => TL.assign hF rfl rfl TL.fin) ?_
    refine DH.done [(40, _), (291, _), (290, _), (285, _), (289, _), (287, _), (286, _), (288, _)] [_] (by kernel_rfl) (by kernel_rfl) (by kernel_rfl) (by kernel_rfl) rfl rfl ?_
    refine TL.assign hF rfl rfl ?_
    refine TL.nil ?_
    exact TQ.cut () trivial ⟨rfl, rfl, rfl, rfl, rfl, rfl, rfl, rfl, rfl, rfl, trivial⟩ rfl
  ·rintro _ _
   refine T.seq ?_
   refine T.region ?_
   refine TL.buildSlice hF rfl (cs := #[.int .i64 2]) (e := 3) (fun w => by kernel_rfl) rfl (fun b293 => ?_)
   refine TL.callV hF (at_fn) rfl rfl ?_
   refine TL.buildSlice hF rfl (cs := #[.int .i64 1]) (e := 3) (fun w => by kernel_rfl) rfl (fun b295 => ?_)
   refine TL.callV hF (at_fn) rfl rfl ?_
   refine TL.freeze ([[(b295, Obj.cells #[.int .i64 1] 3 (0, 0))], [(b293, Obj.cells #[.int .i64 2] 3 (0, 0))]]) rfl (fun S7 w7 hz7 => ?_)
   replace hb := hb.frz hz7
   have h293 : Row S7 w7 [] (some ⟨b293, 0, none⟩) (ints [2]) := (row_own (η := [[(b295, Obj.cells #[.int .i64 1] 3 (0, 0))], [(b293, Obj.cells #[.int .i64 2] 3 (0, 0))]]) (cs := [.int .i64 2]) (e := 3) (by simp)).frz hz7
   have h295 : Row S7 w7 [] (some ⟨b295, 0, none⟩) (ints [1]) := (row_own (η := [[(b295, Obj.cells #[.int .i64 1] 3 (0, 0))], [(b293, Obj.cells #[.int .i64 2] 3 (0, 0))]]) (cs := [.int .i64 1]) (e := 3) (by simp)).frz hz7
   refine TL.call hF (Changes_prog h293.ro h295.ro (by simp) (by simp) (by intro x hx; simp only [List.mem_cons, List.not_mem_nil, or_false] at hx; omega)) rfl rfl ?_
   rintro _ _ h
   obtain ⟨da, dc, segs, rfl, -, rfl⟩ := h.lit (show difsP [2] [1] = ([], 2) by decide +kernel)
   refine TL.hsub _ (List.sublist_append_right _ _) ?_
   refine TL.move hF rfl rfl ?_
   refine TL.extract hF rfl rfl rfl ?_
   refine TL.extract hF rfl rfl rfl ?_
   refine TL.assign hF rfl rfl ?_
   refine TL.assign hF rfl rfl ?_
   refine TL.nil ?_
   refine TQ.then_n ?_
   refine T.seq ?_
   refine T.region ?_
   refine TL.buildSlice hF rfl (cs := #[.int .i64 4611686018427387904, .int .i64 4]) (e := 3) (fun w => by kernel_rfl) rfl (fun b301 => ?_)
   refine TL.callV hF (at_fn) rfl rfl ?_
   refine TL.freeze ([[(b301, Obj.cells #[.int .i64 4611686018427387904, .int .i64 4] 3 (0, 0))]]) rfl (fun S8 w8 hz8 => ?_)
   replace hb := hb.frz hz8
   have h301 : Row S8 w8 [] (some ⟨b301, 0, none⟩) (ints [4611686018427387904, 4]) := (row_own (η := [[(b301, Obj.cells #[.int .i64 4611686018427387904, .int .i64 4] 3 (0, 0))]]) (cs := [.int .i64 4611686018427387904, .int .i64 4]) (e := 3) (by simp)).frz hz8
   refine TL.call hF (Sums_prog (l := []) h301.ro Row.none (by simp) (by simp) (by intro x hx; simp at hx)) rfl rfl ?_
   rintro _ _ h
   obtain ⟨da, dc, segs, rfl, -, rfl⟩ := h.lit (show sumsP [4611686018427387904, 4] [] = ([], 1) by decide +kernel)
   refine TL.hsub _ (List.sublist_append_right _ _) ?_
   refine TL.move hF rfl rfl ?_
   refine TL.extract hF rfl rfl rfl ?_
   refine TL.extract hF rfl rfl rfl ?_
   refine TL.assign hF rfl rfl ?_
   refine TL.assign hF rfl rfl ?_
   refine TL.nil ?_
   refine TQ.then_n ?_
   refine T.seq ?_
   refine T.seq ?_
   refine T.region ?_
   refine TL.move hF rfl rfl ?_
   refine TL.bin hF rfl rfl rfl rfl ?_
   refine TL.move hF rfl rfl ?_
   refine TL.on rfl rfl rfl rfl ?_
   refine TL.move hF rfl rfl ?_
   refine TL.on rfl rfl rfl rfl ?_
   refine TL.bin hF rfl rfl rfl rfl ?_
   refine TL.pickF hF rfl rfl rfl rfl ?_
   refine TL.move hF rfl rfl ?_
   refine TL.on rfl rfl rfl rfl ?_
   refine TL.move hF rfl rfl ?_
   refine TL.on rfl rfl rfl rfl ?_
   refine TL.bin hF rfl rfl rfl rfl ?_
   refine TL.pickF hF rfl rfl rfl rfl ?_
   refine TL.move hF rfl rfl ?_
   refine TL.on rfl rfl rfl rfl ?_
   refine TL.move hF rfl rfl ?_
   refine TL.on rfl rfl rfl rfl ?_
   refine TL.bin hF rfl rfl rfl rfl ?_
   refine TL.pickF hF rfl rfl rfl rfl ?_
   refine TL.move hF rfl rfl ?_
   refine TL.on rfl rfl rfl rfl ?_
   refine TL.move hF rfl rfl ?_
   refine TL.on rfl rfl rfl rfl ?_
   refine TL.bin hF rfl rfl rfl rfl ?_
   refine TL.pickF hF rfl rfl rfl rfl ?_
   refine TL.move hF rfl rfl ?_
   refine TL.on rfl rfl rfl rfl ?_
   refine TL.move hF rfl rfl ?_
   refine TL.on rfl rfl rfl rfl ?_
   refine TL.bin hF rfl rfl rfl rfl ?_
   refine TL.pickF hF rfl rfl rfl rfl ?_
   refine TL.move hF rfl rfl ?_
   refine TL.on rfl rfl rfl rfl ?_
   refine TL.move hF rfl rfl ?_
   refine TL.on rfl rfl rfl rfl ?_
   refine TL.bin hF rfl rfl rfl rfl ?_
   refine TL.pickF hF rfl rfl rfl rfl ?_
   refine TL.move hF rfl rfl ?_
   refine TL.on rfl rfl rfl rfl ?_
   refine TL.move hF rfl rfl ?_
   refine TL.on rfl rfl rfl rfl ?_
   refine TL.bin hF rfl rfl rfl rfl ?_
   refine TL.pickF hF rfl rfl rfl rfl ?_
   refine TL.move hF rfl rfl ?_
   refine TL.on rfl rfl rfl rfl ?_
   refine TL.move hF rfl rfl ?_
   refine TL.on rfl rfl rfl rfl ?_
   refine TL.bin hF rfl rfl rfl rfl ?_
   refine TL.pickF hF rfl rfl rfl rfl ?_
   refine TL.move hF rfl rfl ?_
   refine TL.on rfl rfl rfl rfl ?_
   refine TL.move hF rfl rfl ?_
   refine TL.on rfl rfl rfl rfl ?_
   refine TL.bin hF rfl rfl rfl rfl ?_
   refine TL.pickF hF rfl rfl rfl rfl ?_
   refine TL.move hF rfl rfl ?_
   refine TL.on rfl rfl rfl rfl ?_
   refine TL.move hF rfl rfl ?_
   refine TL.on rfl rfl rfl rfl ?_
   refine TL.bin hF rfl rfl rfl rfl ?_
   refine TL.pickF hF rfl rfl rfl rfl ?_
   refine TL.nil ?_
   refine TQ.then_n ?_
   refine T.cond_f rfl rfl ?_
   refine T.skip ?_
   refine TQ.then_n ?_
   refine T.seq ?_
   refine T.region ?_
   refine TL.call hF (Sort_prog (ps := []) LL.none (by simp) (by simp)) rfl rfl ?_
   rintro _ _ h
   obtain ⟨a46, c46, p46, segs, rfl, t46, -, rfl⟩ := h.lit (show sortS [] = ([], 0) by decide +kernel)
   have e46 : p46.length = 0 := by rw [← tx_len, t46]; rfl
   rw [e46]
   refine TL.hsub _ (List.sublist_append_right _ _) ?_
   refine TL.move hF rfl rfl ?_
   refine TL.extract hF rfl rfl rfl ?_
   refine TL.extract hF rfl rfl rfl ?_
   refine TL.assign hF rfl rfl ?_
   refine TL.assign hF rfl rfl ?_
   refine TL.nil ?_
   refine TQ.then_n ?_
   refine T.seq ?_
   refine T.region ?_
   refine TL.buildSlice hF rfl (cs := #[.int .i64 1]) (e := 3) (fun w => by kernel_rfl) rfl (fun b353 => ?_)
   refine TL.buildSlice hF rfl (cs := #[.slice (some ⟨b353, 0, none⟩) 1 1]) (e := 22) (fun w => by kernel_rfl) rfl (fun b354 => ?_)
   refine TL.freeze ([[(b354, Obj.cells #[.slice (some ⟨b353, 0, none⟩) 1 1] 22 (0, 0))], [(b353, Obj.cells #[.int .i64 1] 3 (0, 0))]]) rfl (fun S9 w9 hz9 => ?_)
   replace hb := hb.frz hz9
   have h353 : Row S9 w9 [] (some ⟨b353, 0, none⟩) (ints [1]) := (row_own (η := [[(b354, Obj.cells #[.slice (some ⟨b353, 0, none⟩) 1 1] 22 (0, 0))], [(b353, Obj.cells #[.int .i64 1] 3 (0, 0))]]) (cs := [.int .i64 1]) (e := 3) (by simp)).frz hz9
   have h354 : LL S9 w9 [] (some ⟨b354, 0, none⟩) [(some ⟨b353, 0, none⟩, [1], 1)] := ⟨(row_own (η := [[(b354, Obj.cells #[.slice (some ⟨b353, 0, none⟩) 1 1] 22 (0, 0))], [(b353, Obj.cells #[.int .i64 1] 3 (0, 0))]]) (cs := [.slice (some ⟨b353, 0, none⟩) 1 1]) (e := 22) (by simp)).frz hz9, fun p hp => by
    simp only [List.mem_cons, List.not_mem_nil, or_false] at hp
    subst hp
    exact h353⟩
   refine TL.call hF (Both_prog (rs := []) h354 LL.none (by simp) (by simp) (by simp) (by simp)) rfl rfl ?_
   rintro _ _ h
   obtain ⟨a47, c47, p47, segs, rfl, t47, -, rfl⟩ := h.lit (show bothS [[1]] [] = ([], 0) by decide +kernel)
   have e47 : p47.length = 0 := by rw [← tx_len, t47]; rfl
   rw [e47]
   refine TL.hsub _ (List.sublist_append_right _ _) ?_
   refine TL.move hF rfl rfl ?_
   refine TL.extract hF rfl rfl rfl ?_
   refine TL.extract hF rfl rfl rfl ?_
   refine TL.assign hF rfl rfl ?_
   refine TL.assign hF rfl rfl ?_
   refine TL.nil ?_
   refine TQ.then_n ?_
   refine T.seq ?_
   refine T.region ?_
   refine TL.buildSlice hF rfl (cs := #[.int .i64 1]) (e := 3) (fun w => by kernel_rfl) rfl (fun b359 => ?_)
   refine TL.buildSlice hF rfl (cs := #[.slice (some ⟨b359, 0, none⟩) 1 1]) (e := 22) (fun w => by kernel_rfl) rfl (fun b360 => ?_)
   refine TL.freeze ([[(b360, Obj.cells #[.slice (some ⟨b359, 0, none⟩) 1 1] 22 (0, 0))], [(b359, Obj.cells #[.int .i64 1] 3 (0, 0))]]) rfl (fun S10 w10 hz10 => ?_)
   replace hb := hb.frz hz10
   have h359 : Row S10 w10 [] (some ⟨b359, 0, none⟩) (ints [1]) := (row_own (η := [[(b360, Obj.cells #[.slice (some ⟨b359, 0, none⟩) 1 1] 22 (0, 0))], [(b359, Obj.cells #[.int .i64 1] 3 (0, 0))]]) (cs := [.int .i64 1]) (e := 3) (by simp)).frz hz10
   have h360 : LL S10 w10 [] (some ⟨b360, 0, none⟩) [(some ⟨b359, 0, none⟩, [1], 1)] := ⟨(row_own (η := [[(b360, Obj.cells #[.slice (some ⟨b359, 0, none⟩) 1 1] 22 (0, 0))], [(b359, Obj.cells #[.int .i64 1] 3 (0, 0))]]) (cs := [.slice (some ⟨b359, 0, none⟩) 1 1]) (e := 22) (by simp)).frz hz10, fun p hp => by
    simp only [List.mem_cons, List.not_mem_nil, or_false] at hp
    subst hp
    exact h359⟩
   refine TL.call hF (Either_prog (rs := []) h360 LL.none (by simp) (by simp) (by simp) (by simp)) rfl rfl ?_
   rintro _ _ h
   obtain ⟨a48, c48, p48, segs, rfl, t48, h48, rfl⟩ := h.lit (show eitherS [[1]] [] = ([[1]], 0) by decide +kernel)
   refine TL.freeze (segs) rfl (fun S11 w11 hz11 => ?_)
   replace hb := hb.frz hz11
   replace h359 := h359.old hz11
   replace h360 := h360.old hz11
   replace h48 := h48.frz hz11
   refine TL.move hF rfl rfl ?_
   refine TL.extract hF rfl rfl rfl ?_
   refine TL.extract hF rfl rfl rfl ?_
   refine TL.assign hF rfl rfl ?_
   refine TL.assign hF rfl rfl ?_
   refine TL.nil ?_
   refine TQ.then_n ?_
   refine T.seq ?_
   refine T.region ?_
   refine TL.buildSlice hF rfl (cs := #[.int .i64 1]) (e := 3) (fun w => by kernel_rfl) rfl (fun b365 => ?_)
   refine TL.callV hF (at_fn) rfl rfl ?_
   refine TL.freeze ([[(b365, Obj.cells #[.int .i64 1] 3 (0, 0))]]) rfl (fun S12 w12 hz12 => ?_)
   replace hb := hb.frz hz12
   replace h48 := h48.old hz12
   have h365 : Row S12 w12 [] (some ⟨b365, 0, none⟩) (ints [1]) := (row_own (η := [[(b365, Obj.cells #[.int .i64 1] 3 (0, 0))]]) (cs := [.int .i64 1]) (e := 3) (by simp)).frz hz12
   refine TL.call hF (Beyond_prog (ps := []) LL.none h365 (by simp) (by simp) (by simp)) rfl rfl ?_
   rintro _ _ h
   obtain ⟨rfl, segs, rfl⟩ := h.lit (show beyondS [] [1] = (false, 0) by decide +kernel)
   refine TL.hsub _ (List.sublist_append_right _ _) ?_
   refine TL.move hF rfl rfl ?_
   refine TL.extract hF rfl rfl rfl ?_
   refine TL.extract hF rfl rfl rfl ?_
   refine TL.assign hF rfl rfl ?_
   refine TL.assign hF rfl rfl ?_
   refine TL.nil ?_
   refine TQ.then_n ?_
   refine T.seq ?_
   refine T.region ?_
   refine TL.call hF (Chains_prog (ps := []) LL.none (by simp) (by simp)) rfl rfl ?_
   rintro _ _ h
   obtain ⟨a50, c50, g50, segs, rfl, -, -, rfl⟩ := h.lit (show chainsS [] = ([], 0) by decide +kernel)
   refine TL.hsub _ (List.sublist_append_right _ _) ?_
   refine TL.move hF rfl rfl ?_
   refine TL.extract hF rfl rfl rfl ?_
   refine TL.extract hF rfl rfl rfl ?_
   refine TL.assign hF rfl rfl ?_
   refine TL.assign hF rfl rfl ?_
   refine TL.nil ?_
   refine TQ.then_n ?_
   refine T.seq ?_
   refine T.region ?_
   refine TL.call hF (Widest_prog (ps := []) LL.none (by simp) (by simp) (fun _ => show (rchM (sortT [])).ok = true by decide +kernel)) rfl rfl ?_
   rintro _ _ h
   obtain ⟨a51, c51, p51, segs, rfl, t51, -, rfl⟩ := h.lit (show widestS [] = ([], 0) by decide +kernel)
   have e51 : p51.length = 0 := by rw [← tx_len, t51]; rfl
   rw [e51]
   refine TL.hsub _ (List.sublist_append_right _ _) ?_
   refine TL.move hF rfl rfl ?_
   refine TL.extract hF rfl rfl rfl ?_
   refine TL.extract hF rfl rfl rfl ?_
   refine TL.assign hF rfl rfl ?_
   refine TL.assign hF rfl rfl ?_
   refine TL.nil ?_
   refine TQ.then_n ?_
   refine T.seq ?_
   refine T.region ?_
   refine TL.buildSlice hF rfl (cs := #[.int .i64 1]) (e := 3) (fun w => by kernel_rfl) rfl (fun b379 => ?_)
   refine TL.buildSlice hF rfl (cs := #[.slice (some ⟨b379, 0, none⟩) 1 1]) (e := 22) (fun w => by kernel_rfl) rfl (fun b380 => ?_)
   refine TL.freeze ([[(b380, Obj.cells #[.slice (some ⟨b379, 0, none⟩) 1 1] 22 (0, 0))], [(b379, Obj.cells #[.int .i64 1] 3 (0, 0))]]) rfl (fun S13 w13 hz13 => ?_)
   replace hb := hb.frz hz13
   replace h48 := h48.old hz13
   have h379 : Row S13 w13 [] (some ⟨b379, 0, none⟩) (ints [1]) := (row_own (η := [[(b380, Obj.cells #[.slice (some ⟨b379, 0, none⟩) 1 1] 22 (0, 0))], [(b379, Obj.cells #[.int .i64 1] 3 (0, 0))]]) (cs := [.int .i64 1]) (e := 3) (by simp)).frz hz13
   have h380 : LL S13 w13 [] (some ⟨b380, 0, none⟩) [(some ⟨b379, 0, none⟩, [1], 1)] := ⟨(row_own (η := [[(b380, Obj.cells #[.slice (some ⟨b379, 0, none⟩) 1 1] 22 (0, 0))], [(b379, Obj.cells #[.int .i64 1] 3 (0, 0))]]) (cs := [.slice (some ⟨b379, 0, none⟩) 1 1]) (e := 22) (by simp)).frz hz13, fun p hp => by
    simp only [List.mem_cons, List.not_mem_nil, or_false] at hp
    subst hp
    exact h379⟩
   refine TL.call hF (Ahead_prog (ps := []) LL.none h380 (by simp) (by simp) (by simp) (by simp)) rfl rfl ?_
   rintro _ _ h
   obtain ⟨rfl, segs, rfl⟩ := h.lit (show aheadS [] [[1]] = (false, 0) by decide +kernel)
   refine TL.hsub _ (List.sublist_append_right _ _) ?_
   refine TL.move hF rfl rfl ?_
   refine TL.extract hF rfl rfl rfl ?_
   refine TL.extract hF rfl rfl rfl ?_
   refine TL.assign hF rfl rfl ?_
   refine TL.assign hF rfl rfl ?_
   refine TL.nil ?_
   refine TQ.then_n ?_
   refine T.seq ?_
   refine T.region ?_
   refine TL.buildSlice hF rfl (cs := #[.int .i64 1]) (e := 3) (fun w => by kernel_rfl) rfl (fun b385 => ?_)
   refine TL.buildSlice hF rfl (cs := #[.slice (some ⟨b385, 0, none⟩) 1 1]) (e := 22) (fun w => by kernel_rfl) rfl (fun b386 => ?_)
   refine TL.freeze ([[(b386, Obj.cells #[.slice (some ⟨b385, 0, none⟩) 1 1] 22 (0, 0))], [(b385, Obj.cells #[.int .i64 1] 3 (0, 0))]]) rfl (fun S14 w14 hz14 => ?_)
   replace hb := hb.frz hz14
   replace h48 := h48.old hz14
   have h385 : Row S14 w14 [] (some ⟨b385, 0, none⟩) (ints [1]) := (row_own (η := [[(b386, Obj.cells #[.slice (some ⟨b385, 0, none⟩) 1 1] 22 (0, 0))], [(b385, Obj.cells #[.int .i64 1] 3 (0, 0))]]) (cs := [.int .i64 1]) (e := 3) (by simp)).frz hz14
   have h386 : LL S14 w14 [] (some ⟨b386, 0, none⟩) [(some ⟨b385, 0, none⟩, [1], 1)] := ⟨(row_own (η := [[(b386, Obj.cells #[.slice (some ⟨b385, 0, none⟩) 1 1] 22 (0, 0))], [(b385, Obj.cells #[.int .i64 1] 3 (0, 0))]]) (cs := [.slice (some ⟨b385, 0, none⟩) 1 1]) (e := 22) (by simp)).frz hz14, fun p hp => by
    simp only [List.mem_cons, List.not_mem_nil, or_false] at hp
    subst hp
    exact h385⟩
   refine TL.call hF (Ahead_prog (rs := []) h386 LL.none (by simp) (by simp) (by simp) (by simp)) rfl rfl ?_
   rintro _ _ h
   obtain ⟨rfl, segs, rfl⟩ := h.lit (show aheadS [[1]] [] = (true, 0) by decide +kernel)
   refine TL.hsub _ (List.sublist_append_right _ _) ?_
   refine TL.move hF rfl rfl ?_
   refine TL.extract hF rfl rfl rfl ?_
   refine TL.extract hF rfl rfl rfl ?_
   refine TL.assign hF rfl rfl ?_
   refine TL.assign hF rfl rfl ?_
   refine TL.nil ?_
   refine TQ.then_n ?_
   refine T.seq ?_
   refine T.region ?_
   refine TL.buildSlice hF rfl (cs := #[.int .i64 1073741824, .int .i64 0]) (e := 3) (fun w => by kernel_rfl) rfl (fun b391 => ?_)
   refine TL.buildSlice hF rfl (cs := #[.slice (some ⟨b391, 0, none⟩) 2 2]) (e := 22) (fun w => by kernel_rfl) rfl (fun b392 => ?_)
   refine TL.buildSlice hF rfl (cs := #[.int .i64 0, .int .i64 1073741824]) (e := 3) (fun w => by kernel_rfl) rfl (fun b393 => ?_)
   refine TL.callV hF (at_fn) rfl rfl ?_
   refine TL.freeze ([[(b393, Obj.cells #[.int .i64 0, .int .i64 1073741824] 3 (0, 0))], [(b392, Obj.cells #[.slice (some ⟨b391, 0, none⟩) 2 2] 22 (0, 0))], [(b391, Obj.cells #[.int .i64 1073741824, .int .i64 0] 3 (0, 0))]]) rfl (fun S15 w15 hz15 => ?_)
   replace hb := hb.frz hz15
   replace h48 := h48.old hz15
   have h391 : Row S15 w15 [] (some ⟨b391, 0, none⟩) (ints [1073741824, 0]) := (row_own (η := [[(b393, Obj.cells #[.int .i64 0, .int .i64 1073741824] 3 (0, 0))], [(b392, Obj.cells #[.slice (some ⟨b391, 0, none⟩) 2 2] 22 (0, 0))], [(b391, Obj.cells #[.int .i64 1073741824, .int .i64 0] 3 (0, 0))]]) (cs := [.int .i64 1073741824, .int .i64 0]) (e := 3) (by simp)).frz hz15
   have h392 : LL S15 w15 [] (some ⟨b392, 0, none⟩) [(some ⟨b391, 0, none⟩, [1073741824, 0], 2)] := ⟨(row_own (η := [[(b393, Obj.cells #[.int .i64 0, .int .i64 1073741824] 3 (0, 0))], [(b392, Obj.cells #[.slice (some ⟨b391, 0, none⟩) 2 2] 22 (0, 0))], [(b391, Obj.cells #[.int .i64 1073741824, .int .i64 0] 3 (0, 0))]]) (cs := [.slice (some ⟨b391, 0, none⟩) 2 2]) (e := 22) (by simp)).frz hz15, fun p hp => by
    simp only [List.mem_cons, List.not_mem_nil, or_false] at hp
    subst hp
    exact h391⟩
   have h393 : Row S15 w15 [] (some ⟨b393, 0, none⟩) (ints [0, 1073741824]) := (row_own (η := [[(b393, Obj.cells #[.int .i64 0, .int .i64 1073741824] 3 (0, 0))], [(b392, Obj.cells #[.slice (some ⟨b391, 0, none⟩) 2 2] 22 (0, 0))], [(b391, Obj.cells #[.int .i64 1073741824, .int .i64 0] 3 (0, 0))]]) (cs := [.int .i64 0, .int .i64 1073741824]) (e := 3) (by simp)).frz hz15
   refine TL.call hF (Seen_prog h392 h393 (by simp) (by simp) (by simp)) rfl rfl ?_
   rintro _ _ h
   obtain ⟨a54, c54, segs, rfl, h54, rfl⟩ := h.lit (show seenS [[1073741824, 0]] [0, 1073741824] = ([1073741824, 1073741824], 0) by decide +kernel)
   refine TL.freeze (segs) rfl (fun S16 w16 hz16 => ?_)
   replace hb := hb.frz hz16
   replace h48 := h48.old hz16
   replace h391 := h391.old hz16
   replace h392 := h392.old hz16
   replace h393 := h393.old hz16
   replace h54 := h54.frz hz16
   refine TL.move hF rfl rfl ?_
   refine TL.extract hF rfl rfl rfl ?_
   refine TL.extract hF rfl rfl rfl ?_
   refine TL.assign hF rfl rfl ?_
   refine TL.assign hF rfl rfl ?_
   refine TL.nil ?_
   refine TQ.then_n ?_
   refine T.seq ?_
   refine T.region ?_
   refine TL.buildSlice hF rfl (cs := #[.int .i64 5]) (e := 3) (fun w => by kernel_rfl) rfl (fun b399 => ?_)
   refine TL.callV hF (at_fn) rfl rfl ?_
   refine TL.buildSlice hF rfl (cs := #[.int .i64 1, .int .i64 1, .int .i64 1, .int .i64 1, .int .i64 9223372036854775807]) (e := 3) (fun w => by kernel_rfl) rfl (fun b401 => ?_)
   refine TL.callV hF (at_fn) rfl rfl ?_
   refine TL.freeze ([[(b401, Obj.cells #[.int .i64 1, .int .i64 1, .int .i64 1, .int .i64 1, .int .i64 9223372036854775807] 3 (0, 0))], [(b399, Obj.cells #[.int .i64 5] 3 (0, 0))]]) rfl (fun S17 w17 hz17 => ?_)
   replace hb := hb.frz hz17
   replace h48 := h48.old hz17
   replace h54 := h54.old hz17
   have h399 : Row S17 w17 [] (some ⟨b399, 0, none⟩) (ints [5]) := (row_own (η := [[(b401, Obj.cells #[.int .i64 1, .int .i64 1, .int .i64 1, .int .i64 1, .int .i64 9223372036854775807] 3 (0, 0))], [(b399, Obj.cells #[.int .i64 5] 3 (0, 0))]]) (cs := [.int .i64 5]) (e := 3) (by simp)).frz hz17
   have h401 : Row S17 w17 [] (some ⟨b401, 0, none⟩) (ints [1, 1, 1, 1, 9223372036854775807]) := (row_own (η := [[(b401, Obj.cells #[.int .i64 1, .int .i64 1, .int .i64 1, .int .i64 1, .int .i64 9223372036854775807] 3 (0, 0))], [(b399, Obj.cells #[.int .i64 5] 3 (0, 0))]]) (cs := [.int .i64 1, .int .i64 1, .int .i64 1, .int .i64 1, .int .i64 9223372036854775807]) (e := 3) (by simp)).frz hz17
   refine TL.call hF (Sums_prog h399.ro h401.ro (by simp) (by simp) (by intro x hx; simp only [List.mem_cons, List.not_mem_nil, or_false] at hx; omega)) rfl rfl ?_
   rintro _ _ h
   obtain ⟨a55, c55, segs, rfl, h55, rfl⟩ := h.lit (show sumsP [5] [1, 1, 1, 1, 9223372036854775807] = ([1, 2, 3, 4, -9223372036854775805], 0) by decide +kernel)
   refine TL.freeze (segs) rfl (fun S18 w18 hz18 => ?_)
   replace hb := hb.frz hz18
   replace h48 := h48.old hz18
   replace h54 := h54.old hz18
   replace h399 := h399.old hz18
   replace h401 := h401.old hz18
   replace h55 := h55.frz hz18
   refine TL.move hF rfl rfl ?_
   refine TL.extract hF rfl rfl rfl ?_
   refine TL.extract hF rfl rfl rfl ?_
   refine TL.assign hF rfl rfl ?_
   refine TL.assign hF rfl rfl ?_
   refine TL.nil ?_
   refine TQ.then_n ?_
   refine T.seq ?_
   refine T.seq ?_
   refine T.region ?_
   refine TL.move hF rfl rfl ?_
   refine TL.bin hF rfl rfl rfl rfl ?_
   refine TL.move hF rfl rfl ?_
   refine TL.on rfl rfl rfl rfl ?_
   refine TL.move hF rfl rfl ?_
   refine TL.on rfl rfl rfl rfl ?_
   refine TL.bin hF rfl rfl rfl rfl ?_
   refine TL.pickF hF rfl rfl rfl rfl ?_
   refine TL.move hF rfl rfl ?_
   refine TL.on rfl rfl rfl rfl ?_
   refine TL.move hF rfl rfl ?_
   refine TL.on rfl rfl rfl rfl ?_
   refine TL.bin hF rfl rfl rfl rfl ?_
   refine TL.pickF hF rfl rfl rfl rfl ?_
   refine TL.move hF rfl rfl ?_
   refine TL.on rfl rfl rfl rfl ?_
   refine TL.move hF rfl rfl ?_
   refine TL.on rfl rfl rfl rfl ?_
   refine TL.bin hF rfl rfl rfl rfl ?_
   refine TL.pickF hF rfl rfl rfl rfl ?_
   refine TL.move hF rfl rfl ?_
   refine TL.on rfl rfl rfl rfl ?_
   refine TL.move hF rfl rfl ?_
   refine TL.on rfl rfl rfl rfl ?_
   refine TL.bin hF rfl rfl rfl rfl ?_
   refine TL.pickF hF rfl rfl rfl rfl ?_
   refine TL.move hF rfl rfl ?_
   refine TL.on rfl rfl rfl rfl ?_
   refine TL.move hF rfl rfl ?_
   refine TL.on rfl rfl rfl rfl ?_
   refine TL.bin hF rfl rfl rfl rfl ?_
   refine TL.pickF hF rfl rfl rfl rfl ?_
   refine TL.move hF rfl rfl ?_
   refine TL.on rfl rfl rfl rfl ?_
   refine TL.move hF rfl rfl ?_
   refine TL.on rfl rfl rfl rfl ?_
   refine TL.bin hF rfl rfl rfl rfl ?_
   refine TL.pickF hF rfl rfl rfl rfl ?_
   refine TL.move hF rfl rfl ?_
   refine TL.on rfl rfl rfl rfl ?_
   refine TL.move hF rfl rfl ?_
   refine TL.on rfl rfl rfl rfl ?_
   refine TL.bin hF rfl rfl rfl rfl ?_
   refine TL.pickF hF rfl rfl rfl rfl ?_
   refine TL.move hF rfl rfl ?_
   refine TL.on rfl rfl rfl rfl ?_
   refine TL.move hF rfl rfl ?_
   refine TL.on rfl rfl rfl rfl ?_
   refine TL.bin hF rfl rfl rfl rfl ?_
   refine TL.pickF hF rfl rfl rfl rfl ?_
   refine TL.move hF rfl rfl ?_
   refine TL.on rfl rfl rfl rfl ?_
   refine TL.move hF rfl rfl ?_
   refine TL.on rfl rfl rfl rfl ?_
   refine TL.bin hF rfl rfl rfl rfl ?_
   refine TL.pickF hF rfl rfl rfl rfl ?_
   refine TL.nil ?_
   refine TQ.then_n ?_
   refine T.cond_f rfl rfl ?_
   refine T.skip ?_
   refine TQ.then_n ?_
   refine T.seq ?_
   refine T.region ?_
   refine TL.move hF rfl rfl ?_
   refine TL.len hF rfl rfl ?_
   refine TL.move hF rfl rfl ?_
   refine TL.len hF rfl rfl ?_
   refine TL.add hF rfl rfl (by omega) (by omega) rfl ?_
   refine TL.move hF rfl rfl ?_
   refine TL.len hF rfl rfl ?_
   refine TL.add hF rfl rfl (by simp) (by simp) rfl ?_
   refine TL.move hF rfl rfl ?_
   refine TL.len hF rfl rfl ?_
   refine TL.add hF rfl rfl (by simp) (by simp) rfl ?_
   refine TL.bin hF rfl rfl rfl rfl ?_
   refine TL.move hF rfl rfl ?_
   refine TL.on rfl rfl rfl rfl ?_
   refine TL.move hF rfl rfl ?_
   refine TL.on rfl rfl rfl rfl ?_
   refine TL.buildSlice hF rfl (cs := #[.int .i64 1]) (e := 3) (fun w => by kernel_rfl) rfl (fun b458 => ?_)
   refine TL.on rfl rfl rfl rfl ?_
   refine TL.buildSlice hF rfl (cs := #[.slice (some ⟨b458, 0, none⟩) 1 1]) (e := 22) (fun w => by kernel_rfl) rfl (fun b459 => ?_)
   refine TL.on rfl rfl rfl rfl ?_
   refine TL.callV hF (EqL_lit (L := [[1]]) h48.ro (show LL _ _ _ (some ⟨b459, 0, none⟩) [(some ⟨b458, 0, none⟩, [1], 1)] from ⟨row_own (cs := [.slice (some ⟨b458, 0, none⟩) 1 1]) (e := 22) (b := b459) (by simp), fun p hp => by
    simp only [List.mem_cons, List.not_mem_nil, or_false] at hp
    subst hp
    exact (row_own (cs := [.int .i64 1]) (e := 3) (b := b458) (by simp))⟩) t48 rfl (by decide) (by decide)) rfl rfl ?_
   refine TL.pickT hF rfl rfl rfl rfl ?_
   refine TL.move hF rfl rfl ?_
   refine TL.on rfl rfl rfl rfl ?_
   refine TL.move hF rfl rfl ?_
   refine TL.on rfl rfl rfl rfl ?_
   refine TL.not hF rfl rfl ?_
   refine TL.pickT hF rfl rfl rfl rfl ?_
   refine TL.move hF rfl rfl ?_
   refine TL.on rfl rfl rfl rfl ?_
   refine TL.move hF rfl rfl ?_
   refine TL.on rfl rfl rfl rfl ?_
   refine TL.not hF rfl rfl ?_
   refine TL.pickT hF rfl rfl rfl rfl ?_
   refine TL.move hF rfl rfl ?_
   refine TL.on rfl rfl rfl rfl ?_
   refine TL.move hF rfl rfl ?_
   refine TL.pickT hF rfl rfl rfl rfl ?_
   refine TL.move hF rfl rfl ?_
   refine TL.on rfl rfl rfl rfl ?_
   refine TL.move hF rfl rfl ?_
   refine TL.on rfl rfl rfl rfl ?_
   refine TL.buildSlice hF rfl (cs := #[.int .i64 1073741824, .int .i64 1073741824]) (e := 3) (fun w => by kernel_rfl) rfl (fun b475 => ?_)
   refine TL.on rfl rfl rfl rfl ?_
   refine TL.callV hF (at_fn) rfl rfl ?_
   refine TL.on rfl rfl rfl rfl ?_
   refine TL.callV hF (Equal_fn (ys := [1073741824, 1073741824]) h54.ro (row_own (cs := [.int .i64 1073741824, .int .i64 1073741824]) (e := 3) (b := b475) (by simp)) (by simp)) rfl rfl ?_
   refine TL.pickT hF rfl rfl rfl rfl ?_
   refine TL.move hF rfl rfl ?_
   refine TL.on rfl rfl rfl rfl ?_
   refine TL.move hF rfl rfl ?_
   refine TL.on rfl rfl rfl rfl ?_
   refine TL.buildSlice hF rfl (cs := #[.int .i64 1, .int .i64 2, .int .i64 3, .int .i64 4, .int .i64 (-9223372036854775805)]) (e := 3) (fun w => by kernel_rfl) rfl (fun b481 => ?_)
   refine TL.on rfl rfl rfl rfl ?_
   refine TL.callV hF (at_fn) rfl rfl ?_
   refine TL.on rfl rfl rfl rfl ?_
   refine TL.callV hF (Equal_fn (ys := [1, 2, 3, 4, -9223372036854775805]) h55.ro (row_own (cs := [.int .i64 1, .int .i64 2, .int .i64 3, .int .i64 4, .int .i64 (-9223372036854775805)]) (e := 3) (b := b481) (by simp)) (by simp)) rfl rfl ?_
   refine TL.pickT hF rfl rfl rfl rfl ?_
   refine TL.move hF rfl rfl ?_
   refine TL.pickT hF rfl rfl rfl rfl ?_
   refine TL.move hF rfl rfl ?_
   refine TL.on rfl rfl rfl rfl ?_
   refine TL.call hF ordered_fn rfl rfl ?_
   rintro _ _ rfl
   refine TL.pickT hF rfl rfl rfl rfl ?_
   refine TL.assign hF rfl rfl ?_
   refine TL.nil ?_
   refine TQ.then_n ?_
   refine T.ret ?_
   exact TQ.retsF [0] _ hb rfl rfl rfl (fun _ => rfl)
end Go.Proofs.YteimjjpigohnhaaGreat
namespace Go.Proofs.YteimjjpigohnhaaGreat
open Go.Sl Go.ChangeShapes Go.WideShapes Go.ChangeAt Go.RowKit 
set_option maxRecDepth 100000 in
theorem orderKnown_lifted (os : Os) (started : os.Started) (H : Type) (enc : TypeId × Value → H) :
    ReturnsInHanded {} Tryz.checked os 4 .any (Rows.orderKnownSpec.pre6 enc Tryz.prog Tryz.f4 Rows.orderKnownRow.domain false) (Rows.orderKnownSpec.post enc Tryz.prog Tryz.f4 false true false false) := by
  refine returnsInHanded_of_change (C := Tryz.checked) Tryz.own started (by kernel_rfl) Tryz.func4
    (ChangeSpec.witness6 (enc := enc) (C := Tryz.checked) false ⟨#[], #[], []⟩ 8 (by kernel_rfl) (by kernel_rfl) (by kernel_rfl) (by kernel_rfl)) ?_
  intro W base args ds gs before hval hW hcnd _
  have hW' := hW
  obtain ⟨p, q, hA0, hV, rfl, hfz, hnd⟩ := hW
  have hA : DataW.TrodAll enc Tryz.prog W 0 (fun _ => true) true [] args.toList ds p := hA0
  have hval' : ∀ (j : Nat) t v, (#[] : Array TypeId)[j]? = some t → args[j]? = some v → Value.okWide Tryz.prog W .any base t v := hval
  obtain ⟨ha, rfl, rfl⟩ := trodAll_nil hA
  obtain rfl : args = #[] := by cases args; simpa using ha
  refine (calls_true (OrderKnown_fn )).mono fun e W' ⟨he, hw⟩ => ⟨_, he, ?_⟩
  exact law_post (f := Tryz.f4) Tryz.laidOut rfl 4 rfl u4 hW' rfl (by decide +kernel) hw
theorem orderKnown_holds : Rows.OrderKnownSaid :=
  OpenClaim.holds_of_wide 4 Tryz.f4 rfl rfl rfl rfl rfl rfl rfl ⟨rfl, rfl, rfl, rfl, rfl⟩ rfl rfl rfl rfl rfl (by kernel_rfl) Tryz.func4 (by kernel_rfl)
    (of_decide_eq_true (by kernel_rfl)) (by unfold Func.isWrapper; first | (rw [if_pos (by decide +kernel)]; kernel_rfl) | (rw [if_neg (by decide +kernel)]; exact ⟨rfl, rfl⟩))
    (fun os started H enc _ => orderKnown_lifted os started H enc)
#print axioms orderKnown_holds
end Go.Proofs.YteimjjpigohnhaaGreat
