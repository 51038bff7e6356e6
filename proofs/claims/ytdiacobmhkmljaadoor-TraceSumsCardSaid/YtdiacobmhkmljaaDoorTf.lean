/- Several texts in one. -/
import Derived.Test.YtdiacobmhkmljaaDoorTe
import Derived.Test.YtdiacobmhkmljaaDoorTb
import Derived.Test.YtdiacobmhkmljaaDoorRows
import Derived.LaidMore
import Derived.OpenShut
import Derived.Deep.Strs
import Derived.Stop.Joined
/- The chapter's functions; what all laws end with. -/
namespace Go.Proofs.YtdiacobmhkmljaaDoor
open Go.Sl
variable {S : Nat → Prop} {w0 : World} {η : Heap}
theorem tr_own {b : Nat} {op n : Int} {c : Nat} {l : List TE} (h : [(b, Obj.cells (l.flatMap teC).toArray 72 (0, 0))] ∈ η) (hc : l.length ≤ c) (hl : l.length < 9223372036854775808) (hp : ∀ y ∈ l, Tr S w0 η y) : Tr S w0 η (.nd op n (some ⟨b, 0, none⟩) c l) :=
 tr_iff.2 ⟨⟨row_own (e := 72) h, hc, hl⟩, hp⟩
theorem RM.frz {S' : Nat → Prop} {w1 : World} {ηr : Heap} {x : RH} (h : RM S w0 ηr x) (hz : Frz S S' w0 w1 ηr) : RM S' w1 [] x := h.map fun _ _ hr => hr.frz hz
theorem RM.old {S' : Nat → Prop} {w1 : World} {ηr : Heap} {x : RH} (h : RM S w0 [] x) (hz : Frz S S' w0 w1 ηr) : RM S' w1 [] x := h.map fun _ _ hr => hr.old hz
theorem RL.frz {S' : Nat → Prop} {w1 : World} {ηr : Heap} {a : Option Addr} {l : List RH} (h : RL S w0 ηr a l) (hz : Frz S S' w0 w1 ηr) : RL S' w1 [] a l := h.map fun _ _ hr => hr.frz hz
theorem RL.old {S' : Nat → Prop} {w1 : World} {ηr : Heap} {a : Option Addr} {l : List RH} (h : RL S w0 [] a l) (hz : Frz S S' w0 w1 ηr) : RL S' w1 [] a l := h.map fun _ _ hr => hr.old hz
theorem RL.up {η' : Heap} {a : Option Addr} {l : List RH} (h : RL S w0 η a l) (hs : ∀ s ∈ η, s ∈ η') : RL S w0 η' a l := h.map fun _ _ hr => hr.up hs
theorem RL.ro {η' : Heap} {a : Option Addr} {l : List RH} (h : RL S w0 [] a l) : RL S w0 η' a l := h.up (by simp)
theorem RL.atA {a : Option Addr} {l : List RH} (h : RL S w0 η a l) {i : Nat} (hi : i < l.length) : ∀ j v, (rhC l[i])[j]? = some v → At S w0 η ⟨(sAt a (i * 5)).block, (sAt a (i * 5)).off + j, Option.none⟩ v := h.row.tabA rhC_len hi
theorem RL.ad {a : Option Addr} {l : List RH} (h : RL S w0 η a l) {i : Nat} (hi : i < l.length) : ∃ ad, a = some ad ∧ ad.spot = Option.none := h.row.tad rhC_len (by decide) hi
theorem GL.frz {α : Type} {enc : α → List Value} {S' : Nat → Prop} {w1 : World} {ηr : Heap} {a : Option Addr} {ps : List (GH α)} (h : GL enc S w0 ηr a ps) (hz : Frz S S' w0 w1 ηr) : GL enc S' w1 [] a ps := ⟨h.row.frz hz, fun p hp => (h.item p hp).frz hz⟩
theorem GL.old {α : Type} {enc : α → List Value} {S' : Nat → Prop} {w1 : World} {ηr : Heap} {a : Option Addr} {ps : List (GH α)} (h : GL enc S w0 [] a ps) (hz : Frz S S' w0 w1 ηr) : GL enc S' w1 [] a ps := ⟨h.row.old hz, fun p hp => (h.item p hp).old hz⟩
/-- The chapter's functions, as memory holds them. -/
def sumT (l1 b3 l2 b6 b8 : Nat) : TE := .nd 3 0 (some ⟨b8, 0, none⟩) 2 [.nd 2 0 (some ⟨b3, 0, none⟩) 1 [lessT l1 1], .nd 6 0 (some ⟨b6, 0, none⟩) 1 [lessT l2 1]]
def f0T (l1 b3 l2 b6 b8 b13 : Nat) : TE := .nd 5 0 (some ⟨b13, 0, none⟩) 3 [.nd 1 0 none 0 [], sumT l1 b3 l2 b6 b8, .nd 0 0 none 0 []]
def f1T (l3 b17 b19 : Nat) : TE := .nd 4 0 (some ⟨b19, 0, none⟩) 2 [.nd 0 10 none 0 [], .nd 6 0 (some ⟨b17, 0, none⟩) 1 [lessT l3 1]]
set_option maxHeartbeats 2000000 in
theorem functions_fn  :
  Rt Tryd.prog 30 [].toArray S w0 η (fun v η' => ∃ a c fl segs, v = .slice a fl.length c ∧ Fs S w0 segs a fl ∧ fl.map TE.ex = funsF ∧ η' = segs ++ η) := by
 have hF := open_wide
 refine Rt.of (fn := Tryd.f30) Tryd.func30 rfl rfl ?_
 refine T.seq ?_
 refine T.region ?_
 refine TL.assign hF rfl rfl ?_
 refine TL.nil ?_
 refine TQ.then_n ?_
 refine T.seq ?_
 refine T.region ?_
 refine TL.call hF (less_fn 1) rfl rfl ?_
 rintro _ _ ⟨l1, rfl, rfl⟩
 refine TL.buildSlice hF rfl (cs := (([lessT l1 1] : List TE).flatMap teC).toArray) (e := 72) (fun w => by kernel_rfl) rfl (fun c3 => ?_)
 refine TL.callV hF (of_fn) rfl rfl ?_
 refine TL.call hF (less_fn 1) rfl rfl ?_
 rintro _ _ ⟨l2, rfl, rfl⟩
 refine TL.buildSlice hF rfl (cs := (([lessT l2 1] : List TE).flatMap teC).toArray) (e := 72) (fun w => by kernel_rfl) rfl (fun c6 => ?_)
 refine TL.callV hF (of_fn) rfl rfl ?_
 refine TL.buildSlice hF rfl (cs := (([.nd 2 0 (some ⟨c3, 0, none⟩) 1 [lessT l1 1], .nd 6 0 (some ⟨c6, 0, none⟩) 1 [lessT l2 1]] : List TE).flatMap teC).toArray) (e := 72) (fun w => by kernel_rfl) rfl (fun c8 => ?_)
 refine TL.callV hF (of_fn) rfl rfl ?_
 refine TL.alloc hF rfl (fun b1 => ?_)
 refine TL.storeAI hF (teC (sumT l1 c3 l2 c6 c8)) 0 rfl rfl rfl rfl (teC1 _) (by simp [Value.cells, teC]) ?_
 refine TL.nil ?_
 refine TQ.then_n ?_
 refine T.seq ?_
 refine T.draw ?_
 refine DR.stepV [_] rfl [] rfl rfl trivial (fun ext => TL.callV hF (of_fn) rfl rfl TL.fin) ?_
 refine DR.stepV [_, _] rfl [(1, _, none)] rfl rfl ⟨⟨rfl, by kernel_rfl⟩, trivial⟩ (fun ext => TL.loadA hF (teC (sumT l1 c3 l2 c6 c8)) rfl rfl (own_list (i := 0) (cs := teC (sumT l1 c3 l2 c6 c8)) rfl) rfl TL.fin) ?_
 refine DR.stepV [_, _, _] rfl [] rfl rfl trivial (fun ext => TL.callV hF (of_fn) rfl rfl TL.fin) ?_
 refine DR.done [(12, _), (11, _), (10, _)] [_, _, _, _, _, _, _, _, _, _] mixed (by kernel_rfl) (by kernel_rfl) (by kernel_rfl) rfl rfl ?_
 refine TL.buildSlice hF rfl (cs := (([.nd 1 0 none 0 [], sumT l1 c3 l2 c6 c8, .nd 0 0 none 0 []] : List TE).flatMap teC).toArray) (e := 72) (fun w => by kernel_rfl) rfl (fun c13 => ?_)
 refine TL.callV hF (of_fn) rfl rfl ?_
 refine TL.callV hF (of_fn) rfl rfl ?_
 refine TL.call hF (less_fn 1) rfl rfl ?_
 rintro _ _ ⟨l3, rfl, rfl⟩
 refine TL.buildSlice hF rfl (cs := (([lessT l3 1] : List TE).flatMap teC).toArray) (e := 72) (fun w => by kernel_rfl) rfl (fun c17 => ?_)
 refine TL.callV hF (of_fn) rfl rfl ?_
 refine TL.buildSlice hF rfl (cs := (([.nd 0 10 none 0 [], .nd 6 0 (some ⟨c17, 0, none⟩) 1 [lessT l3 1]] : List TE).flatMap teC).toArray) (e := 72) (fun w => by kernel_rfl) rfl (fun c19 => ?_)
 refine TL.callV hF (of_fn) rfl rfl ?_
 refine TL.buildSlice hF rfl (cs := (([f0T l1 c3 l2 c6 c8 c13, f1T l3 c17 c19] : List TE).flatMap teC).toArray) (e := 72) (fun w => by kernel_rfl) rfl (fun c21 => ?_)
 refine TL.assign hF rfl rfl ?_
 refine TL.nil ?_
 refine TQ.then_n ?_
 refine T.ret ?_
 refine TQ.hsub ([[(c21, Obj.cells (([f0T l1 c3 l2 c6 c8 c13, f1T l3 c17 c19] : List TE).flatMap teC).toArray 72 (0, 0))], [(c19, Obj.cells (([.nd 0 10 none 0 [], .nd 6 0 (some ⟨c17, 0, none⟩) 1 [lessT l3 1]] : List TE).flatMap teC).toArray 72 (0, 0))], [(c17, Obj.cells (([lessT l3 1] : List TE).flatMap teC).toArray 72 (0, 0))], lessS l3 1, [(c13, Obj.cells (([.nd 1 0 none 0 [], sumT l1 c3 l2 c6 c8, .nd 0 0 none 0 []] : List TE).flatMap teC).toArray 72 (0, 0))], [(c8, Obj.cells (([.nd 2 0 (some ⟨c3, 0, none⟩) 1 [lessT l1 1], .nd 6 0 (some ⟨c6, 0, none⟩) 1 [lessT l2 1]] : List TE).flatMap teC).toArray 72 (0, 0))], [(c6, Obj.cells (([lessT l2 1] : List TE).flatMap teC).toArray 72 (0, 0))], lessS l2 1, [(c3, Obj.cells (([lessT l1 1] : List TE).flatMap teC).toArray 72 (0, 0))], lessS l1 1] ++ η) (List.Sublist.cons_cons _ (List.Sublist.cons_cons _ (List.Sublist.cons_cons _ (List.Sublist.cons_cons _ (List.Sublist.cons_cons _ (List.sublist_cons_self _ _)))))) ?_
 refine TQ.rets [0] _ rfl rfl rfl ?_
 refine ⟨some ⟨c21, 0, none⟩, 2, [f0T l1 c3 l2 c6 c8 c13, f1T l3 c17 c19], [[(c21, Obj.cells (([f0T l1 c3 l2 c6 c8 c13, f1T l3 c17 c19] : List TE).flatMap teC).toArray 72 (0, 0))], [(c19, Obj.cells (([.nd 0 10 none 0 [], .nd 6 0 (some ⟨c17, 0, none⟩) 1 [lessT l3 1]] : List TE).flatMap teC).toArray 72 (0, 0))], [(c17, Obj.cells (([lessT l3 1] : List TE).flatMap teC).toArray 72 (0, 0))], lessS l3 1, [(c13, Obj.cells (([.nd 1 0 none 0 [], sumT l1 c3 l2 c6 c8, .nd 0 0 none 0 []] : List TE).flatMap teC).toArray 72 (0, 0))], [(c8, Obj.cells (([.nd 2 0 (some ⟨c3, 0, none⟩) 1 [lessT l1 1], .nd 6 0 (some ⟨c6, 0, none⟩) 1 [lessT l2 1]] : List TE).flatMap teC).toArray 72 (0, 0))], [(c6, Obj.cells (([lessT l2 1] : List TE).flatMap teC).toArray 72 (0, 0))], lessS l2 1, [(c3, Obj.cells (([lessT l1 1] : List TE).flatMap teC).toArray 72 (0, 0))], lessS l1 1], rfl, ⟨row_own (e := 72) (by simp), fun x hx => ?_⟩, rfl, rfl⟩
 have q1 : Tr S w0 [[(c21, Obj.cells (([f0T l1 c3 l2 c6 c8 c13, f1T l3 c17 c19] : List TE).flatMap teC).toArray 72 (0, 0))], [(c19, Obj.cells (([.nd 0 10 none 0 [], .nd 6 0 (some ⟨c17, 0, none⟩) 1 [lessT l3 1]] : List TE).flatMap teC).toArray 72 (0, 0))], [(c17, Obj.cells (([lessT l3 1] : List TE).flatMap teC).toArray 72 (0, 0))], lessS l3 1, [(c13, Obj.cells (([.nd 1 0 none 0 [], sumT l1 c3 l2 c6 c8, .nd 0 0 none 0 []] : List TE).flatMap teC).toArray 72 (0, 0))], [(c8, Obj.cells (([.nd 2 0 (some ⟨c3, 0, none⟩) 1 [lessT l1 1], .nd 6 0 (some ⟨c6, 0, none⟩) 1 [lessT l2 1]] : List TE).flatMap teC).toArray 72 (0, 0))], [(c6, Obj.cells (([lessT l2 1] : List TE).flatMap teC).toArray 72 (0, 0))], lessS l2 1, [(c3, Obj.cells (([lessT l1 1] : List TE).flatMap teC).toArray 72 (0, 0))], lessS l1 1] (lessT l1 1) := lessT_tr (by simp)
 have q2 : Tr S w0 [[(c21, Obj.cells (([f0T l1 c3 l2 c6 c8 c13, f1T l3 c17 c19] : List TE).flatMap teC).toArray 72 (0, 0))], [(c19, Obj.cells (([.nd 0 10 none 0 [], .nd 6 0 (some ⟨c17, 0, none⟩) 1 [lessT l3 1]] : List TE).flatMap teC).toArray 72 (0, 0))], [(c17, Obj.cells (([lessT l3 1] : List TE).flatMap teC).toArray 72 (0, 0))], lessS l3 1, [(c13, Obj.cells (([.nd 1 0 none 0 [], sumT l1 c3 l2 c6 c8, .nd 0 0 none 0 []] : List TE).flatMap teC).toArray 72 (0, 0))], [(c8, Obj.cells (([.nd 2 0 (some ⟨c3, 0, none⟩) 1 [lessT l1 1], .nd 6 0 (some ⟨c6, 0, none⟩) 1 [lessT l2 1]] : List TE).flatMap teC).toArray 72 (0, 0))], [(c6, Obj.cells (([lessT l2 1] : List TE).flatMap teC).toArray 72 (0, 0))], lessS l2 1, [(c3, Obj.cells (([lessT l1 1] : List TE).flatMap teC).toArray 72 (0, 0))], lessS l1 1] (lessT l2 1) := lessT_tr (by simp)
 have q3 : Tr S w0 [[(c21, Obj.cells (([f0T l1 c3 l2 c6 c8 c13, f1T l3 c17 c19] : List TE).flatMap teC).toArray 72 (0, 0))], [(c19, Obj.cells (([.nd 0 10 none 0 [], .nd 6 0 (some ⟨c17, 0, none⟩) 1 [lessT l3 1]] : List TE).flatMap teC).toArray 72 (0, 0))], [(c17, Obj.cells (([lessT l3 1] : List TE).flatMap teC).toArray 72 (0, 0))], lessS l3 1, [(c13, Obj.cells (([.nd 1 0 none 0 [], sumT l1 c3 l2 c6 c8, .nd 0 0 none 0 []] : List TE).flatMap teC).toArray 72 (0, 0))], [(c8, Obj.cells (([.nd 2 0 (some ⟨c3, 0, none⟩) 1 [lessT l1 1], .nd 6 0 (some ⟨c6, 0, none⟩) 1 [lessT l2 1]] : List TE).flatMap teC).toArray 72 (0, 0))], [(c6, Obj.cells (([lessT l2 1] : List TE).flatMap teC).toArray 72 (0, 0))], lessS l2 1, [(c3, Obj.cells (([lessT l1 1] : List TE).flatMap teC).toArray 72 (0, 0))], lessS l1 1] (lessT l3 1) := lessT_tr (by simp)
 have q4 : Tr S w0 [[(c21, Obj.cells (([f0T l1 c3 l2 c6 c8 c13, f1T l3 c17 c19] : List TE).flatMap teC).toArray 72 (0, 0))], [(c19, Obj.cells (([.nd 0 10 none 0 [], .nd 6 0 (some ⟨c17, 0, none⟩) 1 [lessT l3 1]] : List TE).flatMap teC).toArray 72 (0, 0))], [(c17, Obj.cells (([lessT l3 1] : List TE).flatMap teC).toArray 72 (0, 0))], lessS l3 1, [(c13, Obj.cells (([.nd 1 0 none 0 [], sumT l1 c3 l2 c6 c8, .nd 0 0 none 0 []] : List TE).flatMap teC).toArray 72 (0, 0))], [(c8, Obj.cells (([.nd 2 0 (some ⟨c3, 0, none⟩) 1 [lessT l1 1], .nd 6 0 (some ⟨c6, 0, none⟩) 1 [lessT l2 1]] : List TE).flatMap teC).toArray 72 (0, 0))], [(c6, Obj.cells (([lessT l2 1] : List TE).flatMap teC).toArray 72 (0, 0))], lessS l2 1, [(c3, Obj.cells (([lessT l1 1] : List TE).flatMap teC).toArray 72 (0, 0))], lessS l1 1] (.nd 2 0 (some ⟨c3, 0, none⟩) 1 [lessT l1 1]) := tr_own (by simp) (Nat.le_refl _) (by simp) fun y hy => by rw [List.mem_singleton.1 hy]; exact q1
 have q5 : Tr S w0 [[(c21, Obj.cells (([f0T l1 c3 l2 c6 c8 c13, f1T l3 c17 c19] : List TE).flatMap teC).toArray 72 (0, 0))], [(c19, Obj.cells (([.nd 0 10 none 0 [], .nd 6 0 (some ⟨c17, 0, none⟩) 1 [lessT l3 1]] : List TE).flatMap teC).toArray 72 (0, 0))], [(c17, Obj.cells (([lessT l3 1] : List TE).flatMap teC).toArray 72 (0, 0))], lessS l3 1, [(c13, Obj.cells (([.nd 1 0 none 0 [], sumT l1 c3 l2 c6 c8, .nd 0 0 none 0 []] : List TE).flatMap teC).toArray 72 (0, 0))], [(c8, Obj.cells (([.nd 2 0 (some ⟨c3, 0, none⟩) 1 [lessT l1 1], .nd 6 0 (some ⟨c6, 0, none⟩) 1 [lessT l2 1]] : List TE).flatMap teC).toArray 72 (0, 0))], [(c6, Obj.cells (([lessT l2 1] : List TE).flatMap teC).toArray 72 (0, 0))], lessS l2 1, [(c3, Obj.cells (([lessT l1 1] : List TE).flatMap teC).toArray 72 (0, 0))], lessS l1 1] (.nd 6 0 (some ⟨c6, 0, none⟩) 1 [lessT l2 1]) := tr_own (by simp) (Nat.le_refl _) (by simp) fun y hy => by rw [List.mem_singleton.1 hy]; exact q2
 have q6 : Tr S w0 [[(c21, Obj.cells (([f0T l1 c3 l2 c6 c8 c13, f1T l3 c17 c19] : List TE).flatMap teC).toArray 72 (0, 0))], [(c19, Obj.cells (([.nd 0 10 none 0 [], .nd 6 0 (some ⟨c17, 0, none⟩) 1 [lessT l3 1]] : List TE).flatMap teC).toArray 72 (0, 0))], [(c17, Obj.cells (([lessT l3 1] : List TE).flatMap teC).toArray 72 (0, 0))], lessS l3 1, [(c13, Obj.cells (([.nd 1 0 none 0 [], sumT l1 c3 l2 c6 c8, .nd 0 0 none 0 []] : List TE).flatMap teC).toArray 72 (0, 0))], [(c8, Obj.cells (([.nd 2 0 (some ⟨c3, 0, none⟩) 1 [lessT l1 1], .nd 6 0 (some ⟨c6, 0, none⟩) 1 [lessT l2 1]] : List TE).flatMap teC).toArray 72 (0, 0))], [(c6, Obj.cells (([lessT l2 1] : List TE).flatMap teC).toArray 72 (0, 0))], lessS l2 1, [(c3, Obj.cells (([lessT l1 1] : List TE).flatMap teC).toArray 72 (0, 0))], lessS l1 1] (.nd 6 0 (some ⟨c17, 0, none⟩) 1 [lessT l3 1]) := tr_own (by simp) (Nat.le_refl _) (by simp) fun y hy => by rw [List.mem_singleton.1 hy]; exact q3
 have q7 : Tr S w0 [[(c21, Obj.cells (([f0T l1 c3 l2 c6 c8 c13, f1T l3 c17 c19] : List TE).flatMap teC).toArray 72 (0, 0))], [(c19, Obj.cells (([.nd 0 10 none 0 [], .nd 6 0 (some ⟨c17, 0, none⟩) 1 [lessT l3 1]] : List TE).flatMap teC).toArray 72 (0, 0))], [(c17, Obj.cells (([lessT l3 1] : List TE).flatMap teC).toArray 72 (0, 0))], lessS l3 1, [(c13, Obj.cells (([.nd 1 0 none 0 [], sumT l1 c3 l2 c6 c8, .nd 0 0 none 0 []] : List TE).flatMap teC).toArray 72 (0, 0))], [(c8, Obj.cells (([.nd 2 0 (some ⟨c3, 0, none⟩) 1 [lessT l1 1], .nd 6 0 (some ⟨c6, 0, none⟩) 1 [lessT l2 1]] : List TE).flatMap teC).toArray 72 (0, 0))], [(c6, Obj.cells (([lessT l2 1] : List TE).flatMap teC).toArray 72 (0, 0))], lessS l2 1, [(c3, Obj.cells (([lessT l1 1] : List TE).flatMap teC).toArray 72 (0, 0))], lessS l1 1] (sumT l1 c3 l2 c6 c8) := tr_own (by simp) (Nat.le_refl _) (by simp) fun y hy => by
  simp only [List.mem_cons, List.not_mem_nil, or_false] at hy
  rcases hy with rfl | rfl
  ·exact q4
  ·exact q5
 simp only [List.mem_cons, List.not_mem_nil, or_false] at hx
 rcases hx with rfl | rfl
 ·exact tr_own (by simp) (Nat.le_refl _) (by simp) fun y hy => by
   simp only [List.mem_cons, List.not_mem_nil, or_false] at hy
   rcases hy with rfl | rfl | rfl
   ·exact tr_leaf 1 0
   ·exact q7
   ·exact tr_leaf 0 0
 ·exact tr_own (by simp) (Nat.le_refl _) (by simp) fun y hy => by
   simp only [List.mem_cons, List.not_mem_nil, or_false] at hy
   rcases hy with rfl | rfl
   ·exact tr_leaf 0 10
   ·exact q6
end Go.Proofs.YtdiacobmhkmljaaDoor
/- What all laws end with. -/
namespace Go.Proofs.YtdiacobmhkmljaaDoor
open Go.Sl
variable {S : Nat → Prop} {w0 : World} {η : Heap}
theorem nodesL_true {a b : Option Addr} {l m : List NH} {ca cb : Nat} (hl : NL S w0 η a l) (hm : NL S w0 η b m) (hll : l.length < 2 ^ 63) (e : nds l = nds m) : Rt Tryd.prog 26 [.slice a l.length ca, .slice b m.length cb].toArray S w0 η (fun v η' => v = .bool true ∧ η' = η) := by
 have h := nodesL_fn (ca := ca) (cb := cb) hl hm hll
 rw [decide_eq_true e] at h; exact h
theorem round_true {x y : RH} {r : Rnd} (hx : RM S w0 η x) (hy : RM S w0 η y) (e : x.r = r) (e2 : y.r = r) (hl : r.again.length < 2 ^ 63 ∧ r.new.length < 2 ^ 63 ∧ r.kept.length < 2 ^ 63 ∧ r.dropped.length < 2 ^ 63) : Rt Tryd.prog 46 [.agg (rhC x).toArray, .agg (rhC y).toArray].toArray S w0 η (fun v η' => v = .bool true ∧ η' = η) := by
 have h := round_fn hx hy (by rw [e]; exact hl)
 rw [decide_eq_true (e.trans e2.symm)] at h; exact h
theorem Equal_true {a b : Option Addr} {xs ys : List Int} {ca cb : Nat} (hx : Row S w0 η a (ints xs)) (hy : Row S w0 η b (ints ys)) (hl : xs.length < 2 ^ 63) (e : xs = ys) : Rt Tryd.prog 45 [.slice a xs.length ca, .slice b ys.length cb].toArray S w0 η (fun v η' => v = .bool true ∧ η' = η) := by
 have h := Equal_fn (ca := ca) (cb := cb) hx hy hl
 rw [decide_eq_true e] at h; exact h
theorem run_lit {F : List Ex} {cells : List Int} {top : Key} {l : List NH} {L : List Nd} (h : nds l = (runE F cells top).1) (e : runE F cells top = (L, 0)) : nds l = L := by rw [h, e]
theorem play_lit {F : List Ex} {cells : List Int} {top : Key} {rs : List (List (Int × Int))} {l : List RH} {L : List Rnd} (h : l.map (·.r) = (playS F cells top rs).1) (e : playS F cells top rs = (L, 0)) : l.map (·.r) = L := by rw [h, e]
theorem rnd1 {l : List RH} {r : Rnd} (h : l.map (·.r) = [r]) : ∃ x, l = [x] ∧ x.r = r := by
 match l, h with
 | [x], h => exact ⟨x, rfl, by simpa using h⟩
theorem rnd2 {l : List RH} {r s : Rnd} (h : l.map (·.r) = [r, s]) : ∃ x y, l = [x, y] ∧ x.r = r ∧ y.r = s := by
 match l, h with
 | [x, y], h => exact ⟨x, y, rfl, by simpa using h⟩
theorem gl1 {b1 b2 : Nat} {l : List Key} {n : Nat} (hn : n = l.length) : GL kC S w0 [[(b2, Obj.cells #[.slice (some ⟨b1, 0, none⟩) n n] 38 (0, 0))], [(b1, Obj.cells (l.flatMap kC).toArray 60 (0, 0))]] (some ⟨b2, 0, none⟩) [(some ⟨b1, 0, none⟩, l, n)] := by
 subst hn
 exact ⟨row_own (cs := [.slice (some ⟨b1, 0, none⟩) l.length l.length]) (e := 38) (by simp), fun p hp => by rw [List.mem_singleton.1 hp]; exact row_own (e := 60) (by simp)⟩
theorem lit1 : runE funsF [3, 4, 5] (0, 2) = ([⟨(0, 0), 0, []⟩, ⟨(0, 1), 3, [cellD 0 3, gotD (0, 0) 0]⟩, ⟨(0, 2), 7, [cellD 1 4, gotD (0, 1) 3]⟩], 0) := by decide +kernel
theorem lit2 : playS funsF [3, 4, 5] (0, 3) [[(1, 6)]] = ([⟨14, [(0, 2), (0, 3)], [], [(0, 0), (0, 1)], []⟩], 0) := by decide +kernel
theorem lit3 : playS funsF [3, 4, 5] (1, 4) [[(0, 4)], [(0, 4)]] = ([⟨1, [(0, 1), (0, 2), (0, 3), (1, 4)], [], [(0, 0)], []⟩, ⟨1, [], [], [(0, 0), (0, 1), (0, 2), (0, 3), (1, 4)], []⟩], 0) := by decide +kernel
theorem lit4 : playS funsF [3, 4, 5] (1, 4) [[(0, 4), (1, 3)]] = ([⟨1, [(0, 1), (0, 2)], [], [(0, 0), (0, 3), (1, 4)], []⟩], 0) := by decide +kernel
theorem litA : askedS funsF [3, 4, 5] (0, 3) = 0 := by decide +kernel
theorem litB : askedS funsF [3, 6, 5] (0, 3) = 0 := by decide +kernel
theorem litC : traceS funsF [3, 4, 5] (0, 3) = [⟨(0, 0), 0, []⟩, ⟨(0, 1), 3, [cellD 0 3, gotD (0, 0) 0]⟩, ⟨(0, 2), 7, [cellD 1 4, gotD (0, 1) 3]⟩, ⟨(0, 3), 12, [cellD 2 5, gotD (0, 2) 7]⟩] := by decide +kernel
theorem litD : traceS funsF [3, 6, 5] (0, 3) = [⟨(0, 0), 0, []⟩, ⟨(0, 1), 3, [cellD 0 3, gotD (0, 0) 0]⟩, ⟨(0, 2), 9, [cellD 1 6, gotD (0, 1) 3]⟩, ⟨(0, 3), 14, [cellD 2 5, gotD (0, 2) 9]⟩] := by decide +kernel
theorem lit5 : distS funsF [3, 4, 5] [3, 6, 5] (0, 3) = (2, 0) := by
 rw [dist_yes litA litB rfl, litC, litD]
 decide +kernel
theorem lit6 : needsS funsF [3, 4, 5] (0, 2) = ([0, 1], 0) := by decide +kernel
theorem lit7 : checkS funsF = 0 := by decide +kernel
set_option maxHeartbeats 8000000 in
theorem traced_law (hT : Tabs S w0) :
  Rt Tryd.prog 17 [].toArray S w0 η (fun v _ => v = .bool true) := by
 have hF := open_wide
 refine Rt.of (fn := Tryd.f17) Tryd.func17 rfl rfl ?_
 refine T.seq ?_
 refine T.region ?_
 refine TL.assign hF rfl rfl ?_
 refine TL.nil ?_
 refine TQ.then_n ?_
 refine T.seq ?_
 refine T.region ?_
 have hb := Back.refl S w0
 refine TL.call hF functions_fn rfl rfl ?_
 rintro _ _ ⟨fa, fc, fl, segs, rfl, hfs, hfx, rfl⟩
 have hfl : fl.length < 9223372036854775808 := by have := congrArg List.length hfx; rw [List.length_map] at this; rw [this]; decide
 refine TL.freeze (segs) rfl (fun S1 w1 hz1 => ?_)
 replace hb := hb.frz hz1
 replace hT := hT.old hz1
 replace hfs := hfs.frz hz1
 refine TL.buildSlice hF rfl (cs := #[.int .i64 3, .int .i64 4, .int .i64 5]) (e := 3) (fun w => by kernel_rfl) rfl (fun b17 => ?_)
 refine TL.assign hF rfl rfl ?_
 refine TL.assign hF rfl rfl ?_
 refine TL.nil ?_
 refine TQ.then_n ?_
 refine T.seq ?_
 refine T.region ?_
 refine TL.move hF rfl rfl ?_
 refine TL.move hF rfl rfl ?_
 have h17 : Row S1 w1 [[(b17, Obj.cells #[.int .i64 3, .int .i64 4, .int .i64 5] 3 (0, 0))]] (some ⟨b17, 0, none⟩) (ints [3, 4, 5]) := row_own (cs := [.int .i64 3, .int .i64 4, .int .i64 5]) (e := 3) (by simp)
 refine TL.freeze ([[(b17, Obj.cells #[.int .i64 3, .int .i64 4, .int .i64 5] 3 (0, 0))]]) rfl (fun S2 w2 hz2 => ?_)
 replace hb := hb.frz hz2
 replace hT := hT.old hz2
 replace hfs := hfs.old hz2
 replace h17 := h17.frz hz2
 refine TL.callV hF (at_fn 0 2) rfl rfl ?_
 refine TL.call hF (Run_fn (cells := [3, 4, 5]) (cc := 3) (top := (0, 2)) hT hfs hfl h17 (by decide)) rfl rfl ?_
 rintro _ _ ⟨a3, c3, l3, segs, rfl, hn3, hl3, hc3, rfl⟩
 have e3 : runE (fl.map TE.ex) [3, 4, 5] (0, 2) = ([⟨(0, 0), 0, []⟩, ⟨(0, 1), 3, [cellD 0 3, gotD (0, 0) 0]⟩, ⟨(0, 2), 7, [cellD 1 4, gotD (0, 1) 3]⟩], 0) := by rw [hfx]; exact lit1
 replace hn3 := run_lit hn3 e3
 rw [e3]
 refine TL.freeze (segs) rfl (fun S3 w3 hz3 => ?_)
 replace hb := hb.frz hz3
 replace hT := hT.old hz3
 replace hfs := hfs.old hz3
 replace h17 := h17.old hz3
 replace hl3 := hl3.frz hz3
 refine TL.move hF rfl rfl ?_
 refine TL.extract hF rfl rfl rfl ?_
 refine TL.extract hF rfl rfl rfl ?_
 refine TL.assign hF rfl rfl ?_
 refine TL.assign hF rfl rfl ?_
 refine TL.nil ?_
 refine TQ.then_n ?_
 refine T.seq ?_
 refine T.region ?_
 refine TL.callV hF (at_fn 0 0) rfl rfl ?_
 refine TL.build hF rfl (r := .agg (nhC ⟨⟨(0, 0), 0, []⟩, none, 0⟩).toArray) (fun w => by kernel_rfl) rfl ?_
 refine TL.callV hF (at_fn 0 1) rfl rfl ?_
 refine TL.callV hF (cell_fn 0 3) rfl rfl ?_
 refine TL.callV hF (at_fn 0 0) rfl rfl ?_
 refine TL.callV hF (got_fn (0, 0) 0) rfl rfl ?_
 refine TL.buildSlice hF rfl (cs := (([cellD 0 3, gotD (0, 0) 0] : List Dp).flatMap dpC).toArray) (e := 56) (fun w => by kernel_rfl) rfl (fun b31 => ?_)
 refine TL.build hF rfl (r := .agg (nhC ⟨⟨(0, 1), 3, [cellD 0 3, gotD (0, 0) 0]⟩, some ⟨b31, 0, none⟩, 2⟩).toArray) (fun w => by kernel_rfl) rfl ?_
 refine TL.callV hF (at_fn 0 2) rfl rfl ?_
 refine TL.callV hF (cell_fn 1 4) rfl rfl ?_
 refine TL.callV hF (at_fn 0 1) rfl rfl ?_
 refine TL.callV hF (got_fn (0, 1) 3) rfl rfl ?_
 refine TL.buildSlice hF rfl (cs := (([cellD 1 4, gotD (0, 1) 3] : List Dp).flatMap dpC).toArray) (e := 56) (fun w => by kernel_rfl) rfl (fun b37 => ?_)
 refine TL.build hF rfl (r := .agg (nhC ⟨⟨(0, 2), 7, [cellD 1 4, gotD (0, 1) 3]⟩, some ⟨b37, 0, none⟩, 2⟩).toArray) (fun w => by kernel_rfl) rfl ?_
 refine TL.buildSlice hF rfl (cs := (([⟨⟨(0, 0), 0, []⟩, none, 0⟩, ⟨⟨(0, 1), 3, [cellD 0 3, gotD (0, 0) 0]⟩, some ⟨b31, 0, none⟩, 2⟩, ⟨⟨(0, 2), 7, [cellD 1 4, gotD (0, 1) 3]⟩, some ⟨b37, 0, none⟩, 2⟩] : List NH).flatMap nhC).toArray) (e := 43) (fun w => by kernel_rfl) rfl (fun b39 => ?_)
 refine TL.assign hF rfl rfl ?_
 refine TL.nil ?_
 refine TQ.then_n ?_
 refine T.seq ?_
 refine T.region ?_
 refine TL.move hF rfl rfl ?_
 refine TL.move hF rfl rfl ?_
 have hw : NL S3 w3 [[(b39, Obj.cells (([⟨⟨(0, 0), 0, []⟩, none, 0⟩, ⟨⟨(0, 1), 3, [cellD 0 3, gotD (0, 0) 0]⟩, some ⟨b31, 0, none⟩, 2⟩, ⟨⟨(0, 2), 7, [cellD 1 4, gotD (0, 1) 3]⟩, some ⟨b37, 0, none⟩, 2⟩] : List NH).flatMap nhC).toArray 43 (0, 0))], [(b37, Obj.cells (([cellD 1 4, gotD (0, 1) 3] : List Dp).flatMap dpC).toArray 56 (0, 0))], [(b31, Obj.cells (([cellD 0 3, gotD (0, 0) 0] : List Dp).flatMap dpC).toArray 56 (0, 0))]] (some ⟨b39, 0, none⟩) ([⟨⟨(0, 0), 0, []⟩, none, 0⟩, ⟨⟨(0, 1), 3, [cellD 0 3, gotD (0, 0) 0]⟩, some ⟨b31, 0, none⟩, 2⟩, ⟨⟨(0, 2), 7, [cellD 1 4, gotD (0, 1) 3]⟩, some ⟨b37, 0, none⟩, 2⟩] : List NH) := ⟨row_own (e := 43) (by simp), fun x hx => by
  simp only [List.mem_cons, List.not_mem_nil, or_false] at hx
  rcases hx with rfl | rfl | rfl
  ·exact ⟨Row.none, Nat.le_refl _, (show 0 < 4294967296 by decide)⟩
  ·exact ⟨row_own (e := 56) (by simp), Nat.le_refl _, (show 2 < 4294967296 by decide)⟩
  ·exact ⟨row_own (e := 56) (by simp), Nat.le_refl _, (show 2 < 4294967296 by decide)⟩⟩
 refine TL.freeze ([[(b39, Obj.cells (([⟨⟨(0, 0), 0, []⟩, none, 0⟩, ⟨⟨(0, 1), 3, [cellD 0 3, gotD (0, 0) 0]⟩, some ⟨b31, 0, none⟩, 2⟩, ⟨⟨(0, 2), 7, [cellD 1 4, gotD (0, 1) 3]⟩, some ⟨b37, 0, none⟩, 2⟩] : List NH).flatMap nhC).toArray 43 (0, 0))], [(b37, Obj.cells (([cellD 1 4, gotD (0, 1) 3] : List Dp).flatMap dpC).toArray 56 (0, 0))], [(b31, Obj.cells (([cellD 0 3, gotD (0, 0) 0] : List Dp).flatMap dpC).toArray 56 (0, 0))]]) rfl (fun S4 w4 hz4 => ?_)
 replace hb := hb.frz hz4
 replace hT := hT.old hz4
 replace hfs := hfs.old hz4
 replace h17 := h17.old hz4
 replace hl3 := hl3.old hz4
 replace hw := hw.frz hz4
 refine TL.callV hF (at_fn 0 3) rfl rfl ?_
 refine TL.build hF rfl (r := kV (1, 6)) (fun w => by kernel_rfl) rfl ?_
 refine TL.buildSlice hF rfl (cs := (([(1, 6)] : List Key).flatMap kC).toArray) (e := 60) (fun w => by kernel_rfl) rfl (fun b45 => ?_)
 refine TL.buildSlice hF rfl (cs := #[.slice (some ⟨b45, 0, none⟩) 1 1]) (e := 38) (fun w => by kernel_rfl) rfl (fun b46 => ?_)
 have hg6 : GL kC S4 w4 [[(b46, Obj.cells #[.slice (some ⟨b45, 0, none⟩) 1 1] 38 (0, 0))], [(b45, Obj.cells (([(1, 6)] : List Key).flatMap kC).toArray 60 (0, 0))]] (some ⟨b46, 0, none⟩) [(some ⟨b45, 0, none⟩, [(1, 6)], 1)] := gl1 rfl
 refine TL.freeze ([[(b46, Obj.cells #[.slice (some ⟨b45, 0, none⟩) 1 1] 38 (0, 0))], [(b45, Obj.cells (([(1, 6)] : List Key).flatMap kC).toArray 60 (0, 0))]]) rfl (fun S5 w5 hz5 => ?_)
 replace hb := hb.frz hz5
 replace hT := hT.old hz5
 replace hfs := hfs.old hz5
 replace h17 := h17.old hz5
 replace hl3 := hl3.old hz5
 replace hw := hw.old hz5
 replace hg6 := hg6.frz hz5
 refine TL.call hF (Play_fn (cells := [3, 4, 5]) (cc := 3) (top := (0, 3)) (ps := [(some ⟨b45, 0, none⟩, [(1, 6)], 1)]) hT hfs hfl h17 (by decide) hg6 (by simp) (by simp)) rfl rfl ?_
 rintro _ _ ⟨a6, c6, l6, segs, rfl, hn6, hl6, hc6, rfl⟩
 have e6 : playS (fl.map TE.ex) [3, 4, 5] (0, 3) (erounds [(some ⟨b45, 0, none⟩, [(1, 6)], 1)]) = ([⟨14, [(0, 2), (0, 3)], [], [(0, 0), (0, 1)], []⟩], 0) := by rw [hfx]; exact lit2
 replace hn6 := play_lit hn6 e6
 rw [e6]
 obtain ⟨x6, rfl, hx6⟩ := rnd1 hn6
 refine TL.freeze (segs) rfl (fun S6 w6 hz6 => ?_)
 replace hb := hb.frz hz6
 replace hT := hT.old hz6
 replace hfs := hfs.old hz6
 replace h17 := h17.old hz6
 replace hl3 := hl3.old hz6
 replace hw := hw.old hz6
 replace hg6 := hg6.old hz6
 replace hl6 := hl6.frz hz6
 refine TL.move hF rfl rfl ?_
 refine TL.extract hF rfl rfl rfl ?_
 refine TL.extract hF rfl rfl rfl ?_
 refine TL.assign hF rfl rfl ?_
 refine TL.assign hF rfl rfl ?_
 refine TL.nil ?_
 refine TQ.then_n ?_
 refine T.seq ?_
 refine T.region ?_
 refine TL.move hF rfl rfl ?_
 refine TL.move hF rfl rfl ?_
 refine TL.callV hF (at_fn 1 4) rfl rfl ?_
 refine TL.build hF rfl (r := kV (0, 4)) (fun w => by kernel_rfl) rfl ?_
 refine TL.buildSlice hF rfl (cs := (([(0, 4)] : List Key).flatMap kC).toArray) (e := 60) (fun w => by kernel_rfl) rfl (fun b55 => ?_)
 refine TL.build hF rfl (r := kV (0, 4)) (fun w => by kernel_rfl) rfl ?_
 refine TL.buildSlice hF rfl (cs := (([(0, 4)] : List Key).flatMap kC).toArray) (e := 60) (fun w => by kernel_rfl) rfl (fun b57 => ?_)
 refine TL.buildSlice hF rfl (cs := #[.slice (some ⟨b55, 0, none⟩) 1 1, .slice (some ⟨b57, 0, none⟩) 1 1]) (e := 38) (fun w => by kernel_rfl) rfl (fun b58 => ?_)
 have hg8 : GL kC S6 w6 [[(b58, Obj.cells #[.slice (some ⟨b55, 0, none⟩) 1 1, .slice (some ⟨b57, 0, none⟩) 1 1] 38 (0, 0))], [(b57, Obj.cells (([(0, 4)] : List Key).flatMap kC).toArray 60 (0, 0))], [(b55, Obj.cells (([(0, 4)] : List Key).flatMap kC).toArray 60 (0, 0))]] (some ⟨b58, 0, none⟩) [(some ⟨b55, 0, none⟩, [(0, 4)], 1), (some ⟨b57, 0, none⟩, [(0, 4)], 1)] := ⟨row_own (cs := [.slice (some ⟨b55, 0, none⟩) 1 1, .slice (some ⟨b57, 0, none⟩) 1 1]) (e := 38) (by simp), fun p hp => by
  simp only [List.mem_cons, List.not_mem_nil, or_false] at hp
  rcases hp with rfl | rfl
  ·exact row_own (e := 60) (by simp)
  ·exact row_own (e := 60) (by simp)⟩
 refine TL.freeze ([[(b58, Obj.cells #[.slice (some ⟨b55, 0, none⟩) 1 1, .slice (some ⟨b57, 0, none⟩) 1 1] 38 (0, 0))], [(b57, Obj.cells (([(0, 4)] : List Key).flatMap kC).toArray 60 (0, 0))], [(b55, Obj.cells (([(0, 4)] : List Key).flatMap kC).toArray 60 (0, 0))]]) rfl (fun S7 w7 hz7 => ?_)
 replace hb := hb.frz hz7
 replace hT := hT.old hz7
 replace hfs := hfs.old hz7
 replace h17 := h17.old hz7
 replace hl3 := hl3.old hz7
 replace hw := hw.old hz7
 replace hl6 := hl6.old hz7
 replace hg8 := hg8.frz hz7
 refine TL.call hF (Play_fn (cells := [3, 4, 5]) (cc := 3) (top := (1, 4)) (ps := [(some ⟨b55, 0, none⟩, [(0, 4)], 1), (some ⟨b57, 0, none⟩, [(0, 4)], 1)]) hT hfs hfl h17 (by decide) hg8 (by simp) (by simp)) rfl rfl ?_
 rintro _ _ ⟨a8, c8, l8, segs, rfl, hn8, hl8, hc8, rfl⟩
 have e8 : playS (fl.map TE.ex) [3, 4, 5] (1, 4) (erounds [(some ⟨b55, 0, none⟩, [(0, 4)], 1), (some ⟨b57, 0, none⟩, [(0, 4)], 1)]) = ([⟨1, [(0, 1), (0, 2), (0, 3), (1, 4)], [], [(0, 0)], []⟩, ⟨1, [], [], [(0, 0), (0, 1), (0, 2), (0, 3), (1, 4)], []⟩], 0) := by rw [hfx]; exact lit3
 replace hn8 := play_lit hn8 e8
 rw [e8]
 obtain ⟨x8, y8, rfl, hx8, hy8⟩ := rnd2 hn8
 refine TL.freeze (segs) rfl (fun S8 w8 hz8 => ?_)
 replace hb := hb.frz hz8
 replace hT := hT.old hz8
 replace hfs := hfs.old hz8
 replace h17 := h17.old hz8
 replace hl3 := hl3.old hz8
 replace hw := hw.old hz8
 replace hl6 := hl6.old hz8
 replace hg8 := hg8.old hz8
 replace hl8 := hl8.frz hz8
 refine TL.move hF rfl rfl ?_
 refine TL.extract hF rfl rfl rfl ?_
 refine TL.extract hF rfl rfl rfl ?_
 refine TL.assign hF rfl rfl ?_
 refine TL.assign hF rfl rfl ?_
 refine TL.nil ?_
 refine TQ.then_n ?_
 refine T.seq ?_
 refine T.region ?_
 refine TL.move hF rfl rfl ?_
 refine TL.move hF rfl rfl ?_
 refine TL.callV hF (at_fn 1 4) rfl rfl ?_
 refine TL.build hF rfl (r := kV (0, 4)) (fun w => by kernel_rfl) rfl ?_
 refine TL.build hF rfl (r := kV (1, 3)) (fun w => by kernel_rfl) rfl ?_
 refine TL.buildSlice hF rfl (cs := (([(0, 4), (1, 3)] : List Key).flatMap kC).toArray) (e := 60) (fun w => by kernel_rfl) rfl (fun b68 => ?_)
 refine TL.buildSlice hF rfl (cs := #[.slice (some ⟨b68, 0, none⟩) 2 2]) (e := 38) (fun w => by kernel_rfl) rfl (fun b69 => ?_)
 have hg10 : GL kC S8 w8 [[(b69, Obj.cells #[.slice (some ⟨b68, 0, none⟩) 2 2] 38 (0, 0))], [(b68, Obj.cells (([(0, 4), (1, 3)] : List Key).flatMap kC).toArray 60 (0, 0))]] (some ⟨b69, 0, none⟩) [(some ⟨b68, 0, none⟩, [(0, 4), (1, 3)], 2)] := gl1 rfl
 refine TL.freeze ([[(b69, Obj.cells #[.slice (some ⟨b68, 0, none⟩) 2 2] 38 (0, 0))], [(b68, Obj.cells (([(0, 4), (1, 3)] : List Key).flatMap kC).toArray 60 (0, 0))]]) rfl (fun S9 w9 hz9 => ?_)
 replace hb := hb.frz hz9
 replace hT := hT.old hz9
 replace hfs := hfs.old hz9
 replace h17 := h17.old hz9
 replace hl3 := hl3.old hz9
 replace hw := hw.old hz9
 replace hl6 := hl6.old hz9
 replace hl8 := hl8.old hz9
 replace hg10 := hg10.frz hz9
 refine TL.call hF (Play_fn (cells := [3, 4, 5]) (cc := 3) (top := (1, 4)) (ps := [(some ⟨b68, 0, none⟩, [(0, 4), (1, 3)], 2)]) hT hfs hfl h17 (by decide) hg10 (by simp) (by simp)) rfl rfl ?_
 rintro _ _ ⟨a10, c10, l10, segs, rfl, hn10, hl10, hc10, rfl⟩
 have e10 : playS (fl.map TE.ex) [3, 4, 5] (1, 4) (erounds [(some ⟨b68, 0, none⟩, [(0, 4), (1, 3)], 2)]) = ([⟨1, [(0, 1), (0, 2)], [], [(0, 0), (0, 3), (1, 4)], []⟩], 0) := by rw [hfx]; exact lit4
 replace hn10 := play_lit hn10 e10
 rw [e10]
 obtain ⟨x10, rfl, hx10⟩ := rnd1 hn10
 refine TL.freeze (segs) rfl (fun S10 w10 hz10 => ?_)
 replace hb := hb.frz hz10
 replace hT := hT.old hz10
 replace hfs := hfs.old hz10
 replace h17 := h17.old hz10
 replace hl3 := hl3.old hz10
 replace hw := hw.old hz10
 replace hl6 := hl6.old hz10
 replace hl8 := hl8.old hz10
 replace hg10 := hg10.old hz10
 replace hl10 := hl10.frz hz10
 refine TL.move hF rfl rfl ?_
 refine TL.extract hF rfl rfl rfl ?_
 refine TL.extract hF rfl rfl rfl ?_
 refine TL.assign hF rfl rfl ?_
 refine TL.assign hF rfl rfl ?_
 refine TL.nil ?_
 refine TQ.then_n ?_
 refine T.seq ?_
 refine T.region ?_
 refine TL.move hF rfl rfl ?_
 refine TL.move hF rfl rfl ?_
 refine TL.buildSlice hF rfl (cs := #[.int .i64 3, .int .i64 6, .int .i64 5]) (e := 3) (fun w => by kernel_rfl) rfl (fun b76 => ?_)
 refine TL.callV hF (at_fn 0 3) rfl rfl ?_
 have h76 : Row S10 w10 [[(b76, Obj.cells #[.int .i64 3, .int .i64 6, .int .i64 5] 3 (0, 0))]] (some ⟨b76, 0, none⟩) (ints [3, 6, 5]) := row_own (cs := [.int .i64 3, .int .i64 6, .int .i64 5]) (e := 3) (by simp)
 refine TL.freeze ([[(b76, Obj.cells #[.int .i64 3, .int .i64 6, .int .i64 5] 3 (0, 0))]]) rfl (fun S11 w11 hz11 => ?_)
 replace hb := hb.frz hz11
 replace hT := hT.old hz11
 replace hfs := hfs.old hz11
 replace h17 := h17.old hz11
 replace hl3 := hl3.old hz11
 replace hw := hw.old hz11
 replace hl6 := hl6.old hz11
 replace hl8 := hl8.old hz11
 replace hl10 := hl10.old hz11
 replace h76 := h76.frz hz11
 have e12 : distS (fl.map TE.ex) [3, 4, 5] [3, 6, 5] (0, 3) = (2, 0) := by rw [hfx]; exact lit5
 refine TL.call hF (Distance_fn (cells := [3, 4, 5]) (cc := 3) (others := [3, 6, 5]) (dc := 3) (top := (0, 3)) hT hfs hfl h17 (by decide) h76 (by decide)) rfl rfl ?_
 rintro _ _ ⟨rfl, rfl⟩
 rw [e12]
 refine TL.move hF rfl rfl ?_
 refine TL.extract hF rfl rfl rfl ?_
 refine TL.extract hF rfl rfl rfl ?_
 refine TL.assign hF rfl rfl ?_
 refine TL.assign hF rfl rfl ?_
 refine TL.nil ?_
 refine TQ.then_n ?_
 refine T.seq ?_
 refine T.region ?_
 refine TL.move hF rfl rfl ?_
 refine TL.move hF rfl rfl ?_
 refine TL.callV hF (at_fn 0 2) rfl rfl ?_
 have e14 : needsS (fl.map TE.ex) [3, 4, 5] (0, 2) = ([0, 1], 0) := by rw [hfx]; exact lit6
 refine TL.call hF (Needs_fn (cells := [3, 4, 5]) (cc := 3) (top := (0, 2)) hT hfs hfl h17 (by decide)) rfl rfl ?_
 rintro _ _ ⟨a14, c14, segs, rfl, h14, rfl⟩
 rw [e14] at h14 ⊢
 refine TL.freeze (segs) rfl (fun S12 w12 hz12 => ?_)
 replace hb := hb.frz hz12
 replace hT := hT.old hz12
 replace hfs := hfs.old hz12
 replace h17 := h17.old hz12
 replace hl3 := hl3.old hz12
 replace hw := hw.old hz12
 replace hl6 := hl6.old hz12
 replace hl8 := hl8.old hz12
 replace hl10 := hl10.old hz12
 replace h76 := h76.old hz12
 replace h14 := h14.frz hz12
 refine TL.move hF rfl rfl ?_
 refine TL.extract hF rfl rfl rfl ?_
 refine TL.extract hF rfl rfl rfl ?_
 refine TL.assign hF rfl rfl ?_
 refine TL.assign hF rfl rfl ?_
 refine TL.nil ?_
 refine TQ.then_n ?_
 refine T.seq ?_
 refine T.seq ?_
 refine T.region ?_
 refine TL.move hF rfl rfl ?_
 refine TL.bin hF rfl rfl rfl rfl ?_
 refine TL.move hF rfl rfl ?_
 refine TL.on rfl rfl rfl rfl ?_
 refine TL.move hF rfl rfl ?_
 refine TL.on rfl rfl rfl rfl ?_
 refine TL.bin hF rfl rfl rfl rfl ?_
 refine TL.pickF hF rfl rfl rfl rfl ?_
 refine TL.move hF rfl rfl ?_
 refine TL.on rfl rfl rfl rfl ?_
 refine TL.move hF rfl rfl ?_
 refine TL.on rfl rfl rfl rfl ?_
 refine TL.bin hF rfl rfl rfl rfl ?_
 refine TL.pickF hF rfl rfl rfl rfl ?_
 refine TL.move hF rfl rfl ?_
 refine TL.on rfl rfl rfl rfl ?_
 refine TL.move hF rfl rfl ?_
 refine TL.on rfl rfl rfl rfl ?_
 refine TL.bin hF rfl rfl rfl rfl ?_
 refine TL.pickF hF rfl rfl rfl rfl ?_
 refine TL.move hF rfl rfl ?_
 refine TL.on rfl rfl rfl rfl ?_
 refine TL.move hF rfl rfl ?_
 refine TL.on rfl rfl rfl rfl ?_
 refine TL.bin hF rfl rfl rfl rfl ?_
 refine TL.pickF hF rfl rfl rfl rfl ?_
 refine TL.move hF rfl rfl ?_
 refine TL.on rfl rfl rfl rfl ?_
 refine TL.move hF rfl rfl ?_
 refine TL.on rfl rfl rfl rfl ?_
 refine TL.bin hF rfl rfl rfl rfl ?_
 refine TL.pickF hF rfl rfl rfl rfl ?_
 refine TL.move hF rfl rfl ?_
 refine TL.on rfl rfl rfl rfl ?_
 refine TL.move hF rfl rfl ?_
 refine TL.on rfl rfl rfl rfl ?_
 refine TL.move hF rfl rfl ?_
 refine TL.on rfl rfl rfl rfl ?_
 refine TL.callV hF (nodesL_true hl3.ro hw.ro (by have := congrArg List.length hn3; rw [nds_len] at this; rw [this]; decide) (hn3.trans rfl)) rfl rfl ?_
 refine TL.on rfl rfl rfl rfl ?_
 refine TL.not hF rfl rfl ?_
 refine TL.pickF hF rfl rfl rfl rfl ?_
 refine TL.move hF rfl rfl ?_
 refine TL.on rfl rfl rfl rfl ?_
 refine TL.move hF rfl rfl ?_
 refine TL.on rfl rfl rfl rfl ?_
 refine TL.len hF rfl rfl ?_
 refine TL.on rfl rfl rfl rfl ?_
 refine TL.bin hF rfl rfl rfl rfl ?_
 refine TL.pickF hF rfl rfl rfl rfl ?_
 refine TL.move hF rfl rfl ?_
 refine TL.on rfl rfl rfl rfl ?_
 refine TL.move hF rfl rfl ?_
 refine TL.on rfl rfl rfl rfl ?_
 refine TL.len hF rfl rfl ?_
 refine TL.on rfl rfl rfl rfl ?_
 refine TL.bin hF rfl rfl rfl rfl ?_
 refine TL.pickF hF rfl rfl rfl rfl ?_
 refine TL.move hF rfl rfl ?_
 refine TL.on rfl rfl rfl rfl ?_
 refine TL.move hF rfl rfl ?_
 refine TL.on rfl rfl rfl rfl ?_
 refine TL.len hF rfl rfl ?_
 refine TL.on rfl rfl rfl rfl ?_
 refine TL.bin hF rfl rfl rfl rfl ?_
 refine TL.pickF hF rfl rfl rfl rfl ?_
 refine TL.move hF rfl rfl ?_
 refine TL.on rfl rfl rfl rfl ?_
 refine TL.move hF rfl rfl ?_
 refine TL.on rfl rfl rfl rfl ?_
 refine TL.bin hF rfl rfl rfl rfl ?_
 refine TL.pickF hF rfl rfl rfl rfl ?_
 refine TL.move hF rfl rfl ?_
 refine TL.on rfl rfl rfl rfl ?_
 refine TL.move hF rfl rfl ?_
 refine TL.on rfl rfl rfl rfl ?_
 refine TL.buildSlice hF rfl (cs := #[.int .i64 0, .int .i64 1]) (e := 3) (fun w => by kernel_rfl) rfl (fun b137 => ?_)
 refine TL.on rfl rfl rfl rfl ?_
 refine TL.callV hF (Equal_true (xs := [0, 1]) (ys := [0, 1]) h14.ro (row_own (cs := [.int .i64 0, .int .i64 1]) (e := 3) (by simp)) (by decide) rfl) rfl rfl ?_
 refine TL.on rfl rfl rfl rfl ?_
 refine TL.not hF rfl rfl ?_
 refine TL.pickF hF rfl rfl rfl rfl ?_
 refine TL.move hF rfl rfl ?_
 refine TL.on rfl rfl rfl rfl ?_
 refine TL.move hF rfl rfl ?_
 refine TL.on rfl rfl rfl rfl ?_
 have eck : checkS (fl.map TE.ex) = 0 := by rw [hfx]; exact lit7
 refine TL.call hF (Check_fn (c := fc) hT hfs hfl) rfl rfl ?_
 rintro _ _ ⟨rfl, rfl⟩
 rw [eck]
 refine TL.on rfl rfl rfl rfl ?_
 refine TL.bin hF rfl rfl rfl rfl ?_
 refine TL.pickF hF rfl rfl rfl rfl ?_
 refine TL.nil ?_
 refine TQ.then_n ?_
 refine T.cond_f rfl rfl ?_
 refine T.skip ?_
 refine TQ.then_n ?_
 refine T.seq ?_
 refine T.drawH 64 mixed ?_
 refine DH.pure (i := 0) [(6, _, none)] rfl rfl rfl rfl ⟨⟨rfl, by kernel_rfl⟩, trivial⟩ (fun _ ext => TL.move hF rfl rfl TL.fin) ?_
 refine DH.pure (i := 1) [(146, _, some 0)] rfl rfl rfl rfl ⟨⟨rfl, rfl, rfl⟩, trivial⟩ (fun _ ext => TL.indexAddr hF rfl rfl (hl6.ad (i := 0) (show 0 < 1 by decide)) (by decide) (show (0 : Int) < ((1 : Nat) : Int) by decide) rfl TL.fin) ?_
 refine DH.read (i := 2) [(147, _, some 1)] rfl rfl rfl rfl ⟨⟨rfl, rfl, rfl⟩, trivial⟩ (fun ext => TL.loadA hF (rhC x6) rfl rfl (hl6.ro.atA (i := 0) (show 0 < 1 by decide)) rfl TL.fin) ?_
 refine DH.pure (i := 3) [] rfl rfl rfl rfl trivial (fun _ ext => TL.callV hF (at_fn 0 2) rfl rfl TL.fin) ?_
 refine DH.pure (i := 4) [] rfl rfl rfl rfl trivial (fun _ ext => TL.callV hF (at_fn 0 3) rfl rfl TL.fin) ?_
 refine DH.pure (i := 6) [] rfl rfl rfl rfl trivial (fun _ ext => TL.callV hF (at_fn 0 0) rfl rfl TL.fin) ?_
 refine DH.pure (i := 7) [] rfl rfl rfl rfl trivial (fun _ ext => TL.callV hF (at_fn 0 1) rfl rfl TL.fin) ?_
 refine DH.k2 (by kernel_rfl) (by kernel_rfl) (by kernel_rfl) (by kernel_rfl) (HBK.mk (h := 5) [2] [(149, _, some 3), (150, _, some 4)] rfl rfl rfl ⟨⟨rfl, rfl, rfl⟩, ⟨rfl, rfl, rfl⟩, trivial⟩ (by kernel_rfl) (fun ext => ?_)) (HBK.mk (h := 8) [2] [(152, _, some 6), (153, _, some 7)] rfl rfl rfl ⟨⟨rfl, rfl, rfl⟩, ⟨rfl, rfl, rfl⟩, trivial⟩ (by kernel_rfl) (fun ext => ?_))
 ·refine TL.buildSlice hF rfl (cs := (([(0, 2), (0, 3)] : List Key).flatMap kC).toArray) (e := 25) (fun w => by kernel_rfl) rfl (fun b151 => ?_)
  refine TL.finK ⟨⟨_, rfl, _, _, [(147, _, some 1)], rfl, rfl, ⟨⟨rfl, rfl, rfl⟩, trivial⟩, fun ext => TL.loadA hF (rhC x6) rfl rfl (hl6.ro.atA (i := 0) (show 0 < 1 by decide)) rfl TL.fin⟩, trivial⟩ ?_
  refine DH.k1 (by kernel_rfl) (by kernel_rfl) (by kernel_rfl) (by kernel_rfl) (HBK.mk (h := 8) [2] [(152, _, some 6), (153, _, some 7)] rfl rfl rfl ⟨⟨rfl, rfl, rfl⟩, ⟨rfl, rfl, rfl⟩, trivial⟩ (by kernel_rfl) (fun ext => ?_))
  refine TL.buildSlice hF rfl (cs := (([(0, 0), (0, 1)] : List Key).flatMap kC).toArray) (e := 25) (fun w => by kernel_rfl) rfl (fun b154 => ?_)
  refine TL.finK ⟨⟨_, rfl, _, _, [(147, _, some 1)], rfl, rfl, ⟨⟨rfl, rfl, rfl⟩, trivial⟩, fun ext => TL.loadA hF (rhC x6) rfl rfl (hl6.ro.atA (i := 0) (show 0 < 1 by decide)) rfl TL.fin⟩, trivial⟩ ?_
  refine DH.pure (i := 9) [(151, _, some 5), (154, _, some 8)] rfl rfl rfl rfl ⟨⟨rfl, rfl, rfl⟩, ⟨rfl, rfl, rfl⟩, trivial⟩ (fun _ ext => TL.build hF rfl (r := .agg (rhC ⟨⟨14, [(0, 2), (0, 3)], [], [(0, 0), (0, 1)], []⟩, some ⟨b151, 0, none⟩, 2, none, 0, some ⟨b154, 0, none⟩, 2, none, 0⟩).toArray) (fun w => by kernel_rfl) rfl TL.fin) ?_
  refine DH.read (i := 10) [(148, _, some 2), (155, _, some 9)] rfl rfl rfl rfl ⟨⟨rfl, rfl, rfl⟩, ⟨rfl, rfl, rfl⟩, trivial⟩ (fun ext => TL.callV hF (round_true (r := ⟨14, [(0, 2), (0, 3)], [], [(0, 0), (0, 1)], []⟩) ((hl6.item _ (by simp)).up (by simp)) (y := ⟨⟨14, [(0, 2), (0, 3)], [], [(0, 0), (0, 1)], []⟩, some ⟨b151, 0, none⟩, 2, none, 0, some ⟨b154, 0, none⟩, 2, none, 0⟩) ⟨(row_own (b := b151) (cs := ([(0, 2), (0, 3)] : List Key).flatMap kC) (e := 25) (by simp)), Row.none, (row_own (b := b154) (cs := ([(0, 0), (0, 1)] : List Key).flatMap kC) (e := 25) (by simp)), Row.none⟩ hx6 rfl (by decide)) rfl rfl TL.fin) ?_
  refine DH.pure (i := 11) [(156, _, some 10)] rfl rfl rfl rfl ⟨⟨rfl, rfl, rfl⟩, trivial⟩ (fun _ ext => TL.move hF rfl rfl TL.fin) ?_
  refine DH.pure (i := 12) [(8, _, none), (157, _, some 11)] rfl rfl rfl rfl ⟨⟨rfl, by kernel_rfl⟩, ⟨rfl, rfl, rfl⟩, trivial⟩ (fun _ ext => TL.on rfl rfl rfl rfl <| TL.move hF rfl rfl TL.fin) ?_
  refine DH.pure (i := 13) [(158, _, some 12), (157, _, some 11)] rfl rfl rfl rfl ⟨⟨rfl, rfl, rfl⟩, ⟨rfl, rfl, rfl⟩, trivial⟩ (fun _ ext => TL.on rfl rfl rfl rfl <| TL.indexAddr hF rfl rfl (hl8.ad (i := 0) (show 0 < 2 by decide)) (by decide) (show (0 : Int) < ((2 : Nat) : Int) by decide) rfl TL.fin) ?_
  refine DH.read (i := 14) [(159, _, some 13), (157, _, some 11)] rfl rfl rfl rfl ⟨⟨rfl, rfl, rfl⟩, ⟨rfl, rfl, rfl⟩, trivial⟩ (fun ext => TL.on rfl rfl rfl rfl <| TL.loadA hF (rhC x8) rfl rfl (hl8.ro.atA (i := 0) (show 0 < 2 by decide)) rfl TL.fin) ?_
  refine DH.pure (i := 15) [(157, _, some 11)] rfl rfl rfl rfl ⟨⟨rfl, rfl, rfl⟩, trivial⟩ (fun _ ext => TL.on rfl rfl rfl rfl <| TL.callV hF (at_fn 0 1) rfl rfl TL.fin) ?_
  refine DH.pure (i := 16) [(157, _, some 11)] rfl rfl rfl rfl ⟨⟨rfl, rfl, rfl⟩, trivial⟩ (fun _ ext => TL.on rfl rfl rfl rfl <| TL.callV hF (at_fn 0 2) rfl rfl TL.fin) ?_
  refine DH.pure (i := 17) [(157, _, some 11)] rfl rfl rfl rfl ⟨⟨rfl, rfl, rfl⟩, trivial⟩ (fun _ ext => TL.on rfl rfl rfl rfl <| TL.callV hF (at_fn 0 3) rfl rfl TL.fin) ?_
  refine DH.pure (i := 18) [(157, _, some 11)] rfl rfl rfl rfl ⟨⟨rfl, rfl, rfl⟩, trivial⟩ (fun _ ext => TL.on rfl rfl rfl rfl <| TL.callV hF (at_fn 1 4) rfl rfl TL.fin) ?_
  refine DH.pure (i := 20) [(157, _, some 11)] rfl rfl rfl rfl ⟨⟨rfl, rfl, rfl⟩, trivial⟩ (fun _ ext => TL.on rfl rfl rfl rfl <| TL.callV hF (at_fn 0 0) rfl rfl TL.fin) ?_
  refine DH.k2 (by kernel_rfl) (by kernel_rfl) (by kernel_rfl) (by kernel_rfl) (HBK.mk (h := 19) [14] [(161, _, some 15), (162, _, some 16), (163, _, some 17), (164, _, some 18), (157, _, some 11)] rfl rfl rfl ⟨⟨rfl, rfl, rfl⟩, ⟨rfl, rfl, rfl⟩, ⟨rfl, rfl, rfl⟩, ⟨rfl, rfl, rfl⟩, ⟨rfl, rfl, rfl⟩, trivial⟩ (by kernel_rfl) (fun ext => ?_)) (HBK.mk (h := 21) [14] [(166, _, some 20), (157, _, some 11)] rfl rfl rfl ⟨⟨rfl, rfl, rfl⟩, ⟨rfl, rfl, rfl⟩, trivial⟩ (by kernel_rfl) (fun ext => ?_))
  ·refine TL.on rfl rfl rfl rfl ?_
   refine TL.buildSlice hF rfl (cs := (([(0, 1), (0, 2), (0, 3), (1, 4)] : List Key).flatMap kC).toArray) (e := 25) (fun w => by kernel_rfl) rfl (fun b165 => ?_)
   refine TL.finK ⟨⟨_, rfl, _, _, [(159, _, some 13), (157, _, some 11)], rfl, rfl, ⟨⟨rfl, rfl, rfl⟩, ⟨rfl, rfl, rfl⟩, trivial⟩, fun ext => TL.on rfl rfl rfl rfl <| TL.loadA hF (rhC x8) rfl rfl (hl8.ro.atA (i := 0) (show 0 < 2 by decide)) rfl TL.fin⟩, trivial⟩ ?_
   refine DH.k1 (by kernel_rfl) (by kernel_rfl) (by kernel_rfl) (by kernel_rfl) (HBK.mk (h := 21) [14] [(166, _, some 20), (157, _, some 11)] rfl rfl rfl ⟨⟨rfl, rfl, rfl⟩, ⟨rfl, rfl, rfl⟩, trivial⟩ (by kernel_rfl) (fun ext => ?_))
   refine TL.on rfl rfl rfl rfl ?_
   refine TL.buildSlice hF rfl (cs := (([(0, 0)] : List Key).flatMap kC).toArray) (e := 25) (fun w => by kernel_rfl) rfl (fun b167 => ?_)
   refine TL.finK ⟨⟨_, rfl, _, _, [(159, _, some 13), (157, _, some 11)], rfl, rfl, ⟨⟨rfl, rfl, rfl⟩, ⟨rfl, rfl, rfl⟩, trivial⟩, fun ext => TL.on rfl rfl rfl rfl <| TL.loadA hF (rhC x8) rfl rfl (hl8.ro.atA (i := 0) (show 0 < 2 by decide)) rfl TL.fin⟩, trivial⟩ ?_
   refine DH.pure (i := 22) [(165, _, some 19), (167, _, some 21), (157, _, some 11)] rfl rfl rfl rfl ⟨⟨rfl, rfl, rfl⟩, ⟨rfl, rfl, rfl⟩, ⟨rfl, rfl, rfl⟩, trivial⟩ (fun _ ext => TL.on rfl rfl rfl rfl <| TL.build hF rfl (r := .agg (rhC ⟨⟨1, [(0, 1), (0, 2), (0, 3), (1, 4)], [], [(0, 0)], []⟩, some ⟨b165, 0, none⟩, 4, none, 0, some ⟨b167, 0, none⟩, 1, none, 0⟩).toArray) (fun w => by kernel_rfl) rfl TL.fin) ?_
   refine DH.read (i := 23) [(160, _, some 14), (168, _, some 22), (157, _, some 11)] rfl rfl rfl rfl ⟨⟨rfl, rfl, rfl⟩, ⟨rfl, rfl, rfl⟩, ⟨rfl, rfl, rfl⟩, trivial⟩ (fun ext => TL.on rfl rfl rfl rfl <| TL.callV hF (round_true (r := ⟨1, [(0, 1), (0, 2), (0, 3), (1, 4)], [], [(0, 0)], []⟩) ((hl8.item _ (by simp)).up (by simp)) (y := ⟨⟨1, [(0, 1), (0, 2), (0, 3), (1, 4)], [], [(0, 0)], []⟩, some ⟨b165, 0, none⟩, 4, none, 0, some ⟨b167, 0, none⟩, 1, none, 0⟩) ⟨(row_own (b := b165) (cs := ([(0, 1), (0, 2), (0, 3), (1, 4)] : List Key).flatMap kC) (e := 25) (by simp)), Row.none, (row_own (b := b167) (cs := ([(0, 0)] : List Key).flatMap kC) (e := 25) (by simp)), Row.none⟩ hx8 rfl (by decide)) rfl rfl TL.fin) ?_
   refine DH.pure (i := 24) [(157, _, some 11), (169, _, some 23)] rfl rfl rfl rfl ⟨⟨rfl, rfl, rfl⟩, ⟨rfl, rfl, rfl⟩, trivial⟩ (fun _ ext => TL.pickT hF rfl rfl rfl rfl TL.fin) ?_
   refine DH.pure (i := 25) [(170, _, some 24)] rfl rfl rfl rfl ⟨⟨rfl, rfl, rfl⟩, trivial⟩ (fun _ ext => TL.move hF rfl rfl TL.fin) ?_
   refine DH.pure (i := 26) [(8, _, none), (171, _, some 25)] rfl rfl rfl rfl ⟨⟨rfl, by kernel_rfl⟩, ⟨rfl, rfl, rfl⟩, trivial⟩ (fun _ ext => TL.on rfl rfl rfl rfl <| TL.move hF rfl rfl TL.fin) ?_
   refine DH.pure (i := 27) [(172, _, some 26), (171, _, some 25)] rfl rfl rfl rfl ⟨⟨rfl, rfl, rfl⟩, ⟨rfl, rfl, rfl⟩, trivial⟩ (fun _ ext => TL.on rfl rfl rfl rfl <| TL.indexAddr hF rfl rfl (hl8.ad (i := 1) (show 1 < 2 by decide)) (by decide) (show (1 : Int) < ((2 : Nat) : Int) by decide) rfl TL.fin) ?_
   refine DH.pure (i := 28) [(173, _, some 27), (171, _, some 25)] rfl rfl rfl rfl ⟨⟨rfl, rfl, rfl⟩, ⟨rfl, rfl, rfl⟩, trivial⟩ (fun _ ext => TL.on rfl rfl rfl rfl <| TL.fieldAddr hF rfl rfl TL.fin) ?_
   refine DH.read (i := 29) [(174, _, some 28), (171, _, some 25)] rfl rfl rfl rfl ⟨⟨rfl, rfl, rfl⟩, ⟨rfl, rfl, rfl⟩, trivial⟩ (fun ext => TL.on rfl rfl rfl rfl <| TL.load hF rfl (show At _ _ _ _ (.int .i64 1) from (hl8.ro.atA (i := 1) (show 1 < 2 by decide) 0 _ (by rw [show ([x8, y8] : List RH)[1] = y8 from rfl]; unfold rhC; rw [hy8]; rfl))) rfl TL.fin) ?_
   refine DH.pure (i := 30) [(175, _, some 29), (171, _, some 25)] rfl rfl rfl rfl ⟨⟨rfl, rfl, rfl⟩, ⟨rfl, rfl, rfl⟩, trivial⟩ (fun _ ext => TL.on rfl rfl rfl rfl <| TL.bin hF rfl rfl rfl rfl TL.fin) ?_
   refine DH.pure (i := 31) [(171, _, some 25), (176, _, some 30)] rfl rfl rfl rfl ⟨⟨rfl, rfl, rfl⟩, ⟨rfl, rfl, rfl⟩, trivial⟩ (fun _ ext => TL.pickT hF rfl rfl rfl rfl TL.fin) ?_
   refine DH.pure (i := 32) [(177, _, some 31)] rfl rfl rfl rfl ⟨⟨rfl, rfl, rfl⟩, trivial⟩ (fun _ ext => TL.move hF rfl rfl TL.fin) ?_
   refine DH.pure (i := 33) [(8, _, none), (178, _, some 32)] rfl rfl rfl rfl ⟨⟨rfl, by kernel_rfl⟩, ⟨rfl, rfl, rfl⟩, trivial⟩ (fun _ ext => TL.on rfl rfl rfl rfl <| TL.move hF rfl rfl TL.fin) ?_
   refine DH.pure (i := 34) [(179, _, some 33), (178, _, some 32)] rfl rfl rfl rfl ⟨⟨rfl, rfl, rfl⟩, ⟨rfl, rfl, rfl⟩, trivial⟩ (fun _ ext => TL.on rfl rfl rfl rfl <| TL.indexAddr hF rfl rfl (hl8.ad (i := 1) (show 1 < 2 by decide)) (by decide) (show (1 : Int) < ((2 : Nat) : Int) by decide) rfl TL.fin) ?_
   refine DH.pure (i := 35) [(180, _, some 34), (178, _, some 32)] rfl rfl rfl rfl ⟨⟨rfl, rfl, rfl⟩, ⟨rfl, rfl, rfl⟩, trivial⟩ (fun _ ext => TL.on rfl rfl rfl rfl <| TL.fieldAddr hF rfl rfl TL.fin) ?_
   refine DH.read (i := 36) [(181, _, some 35), (178, _, some 32)] rfl rfl rfl rfl ⟨⟨rfl, rfl, rfl⟩, ⟨rfl, rfl, rfl⟩, trivial⟩ (fun ext => TL.on rfl rfl rfl rfl <| TL.load hF rfl (show At _ _ _ _ (.slice y8.a1 0 y8.c1) from (hl8.ro.atA (i := 1) (show 1 < 2 by decide) 1 _ (by rw [show ([x8, y8] : List RH)[1] = y8 from rfl]; unfold rhC; rw [hy8]; rfl))) rfl TL.fin) ?_
   refine DH.pure (i := 37) [(182, _, some 36), (178, _, some 32)] rfl rfl rfl rfl ⟨⟨rfl, rfl, rfl⟩, ⟨rfl, rfl, rfl⟩, trivial⟩ (fun _ ext => TL.on rfl rfl rfl rfl <| TL.len hF rfl rfl TL.fin) ?_
   refine DH.pure (i := 38) [(8, _, none), (178, _, some 32)] rfl rfl rfl rfl ⟨⟨rfl, by kernel_rfl⟩, ⟨rfl, rfl, rfl⟩, trivial⟩ (fun _ ext => TL.on rfl rfl rfl rfl <| TL.move hF rfl rfl TL.fin) ?_
   refine DH.pure (i := 39) [(184, _, some 38), (178, _, some 32)] rfl rfl rfl rfl ⟨⟨rfl, rfl, rfl⟩, ⟨rfl, rfl, rfl⟩, trivial⟩ (fun _ ext => TL.on rfl rfl rfl rfl <| TL.indexAddr hF rfl rfl (hl8.ad (i := 1) (show 1 < 2 by decide)) (by decide) (show (1 : Int) < ((2 : Nat) : Int) by decide) rfl TL.fin) ?_
   refine DH.pure (i := 40) [(185, _, some 39), (178, _, some 32)] rfl rfl rfl rfl ⟨⟨rfl, rfl, rfl⟩, ⟨rfl, rfl, rfl⟩, trivial⟩ (fun _ ext => TL.on rfl rfl rfl rfl <| TL.fieldAddr hF rfl rfl TL.fin) ?_
   refine DH.read (i := 41) [(186, _, some 40), (178, _, some 32)] rfl rfl rfl rfl ⟨⟨rfl, rfl, rfl⟩, ⟨rfl, rfl, rfl⟩, trivial⟩ (fun ext => TL.on rfl rfl rfl rfl <| TL.load hF rfl (show At _ _ _ _ (.slice y8.a2 0 y8.c2) from (hl8.ro.atA (i := 1) (show 1 < 2 by decide) 2 _ (by rw [show ([x8, y8] : List RH)[1] = y8 from rfl]; unfold rhC; rw [hy8]; rfl))) rfl TL.fin) ?_
   refine DH.pure (i := 42) [(187, _, some 41), (178, _, some 32)] rfl rfl rfl rfl ⟨⟨rfl, rfl, rfl⟩, ⟨rfl, rfl, rfl⟩, trivial⟩ (fun _ ext => TL.on rfl rfl rfl rfl <| TL.len hF rfl rfl TL.fin) ?_
   refine DH.pure (i := 43) [(183, _, some 37), (188, _, some 42), (178, _, some 32)] rfl rfl rfl rfl ⟨⟨rfl, rfl, rfl⟩, ⟨rfl, rfl, rfl⟩, ⟨rfl, rfl, rfl⟩, trivial⟩ (fun _ ext => TL.on rfl rfl rfl rfl <| TL.add hF rfl rfl (by decide) (by decide) rfl TL.fin) ?_
   refine DH.pure (i := 44) [(8, _, none), (178, _, some 32)] rfl rfl rfl rfl ⟨⟨rfl, by kernel_rfl⟩, ⟨rfl, rfl, rfl⟩, trivial⟩ (fun _ ext => TL.on rfl rfl rfl rfl <| TL.move hF rfl rfl TL.fin) ?_
   refine DH.pure (i := 45) [(190, _, some 44), (178, _, some 32)] rfl rfl rfl rfl ⟨⟨rfl, rfl, rfl⟩, ⟨rfl, rfl, rfl⟩, trivial⟩ (fun _ ext => TL.on rfl rfl rfl rfl <| TL.indexAddr hF rfl rfl (hl8.ad (i := 1) (show 1 < 2 by decide)) (by decide) (show (1 : Int) < ((2 : Nat) : Int) by decide) rfl TL.fin) ?_
   refine DH.pure (i := 46) [(191, _, some 45), (178, _, some 32)] rfl rfl rfl rfl ⟨⟨rfl, rfl, rfl⟩, ⟨rfl, rfl, rfl⟩, trivial⟩ (fun _ ext => TL.on rfl rfl rfl rfl <| TL.fieldAddr hF rfl rfl TL.fin) ?_
   refine DH.read (i := 47) [(192, _, some 46), (178, _, some 32)] rfl rfl rfl rfl ⟨⟨rfl, rfl, rfl⟩, ⟨rfl, rfl, rfl⟩, trivial⟩ (fun ext => TL.on rfl rfl rfl rfl <| TL.load hF rfl (show At _ _ _ _ (.slice y8.a4 0 y8.c4) from (hl8.ro.atA (i := 1) (show 1 < 2 by decide) 4 _ (by rw [show ([x8, y8] : List RH)[1] = y8 from rfl]; unfold rhC; rw [hy8]; rfl))) rfl TL.fin) ?_
   refine DH.pure (i := 48) [(193, _, some 47), (178, _, some 32)] rfl rfl rfl rfl ⟨⟨rfl, rfl, rfl⟩, ⟨rfl, rfl, rfl⟩, trivial⟩ (fun _ ext => TL.on rfl rfl rfl rfl <| TL.len hF rfl rfl TL.fin) ?_
   refine DH.pure (i := 49) [(189, _, some 43), (194, _, some 48), (178, _, some 32)] rfl rfl rfl rfl ⟨⟨rfl, rfl, rfl⟩, ⟨rfl, rfl, rfl⟩, ⟨rfl, rfl, rfl⟩, trivial⟩ (fun _ ext => TL.on rfl rfl rfl rfl <| TL.add hF rfl rfl (by decide) (by decide) rfl TL.fin) ?_
   refine DH.pure (i := 50) [(195, _, some 49), (178, _, some 32)] rfl rfl rfl rfl ⟨⟨rfl, rfl, rfl⟩, ⟨rfl, rfl, rfl⟩, trivial⟩ (fun _ ext => TL.on rfl rfl rfl rfl <| TL.bin hF rfl rfl rfl rfl TL.fin) ?_
   refine DH.pure (i := 51) [(178, _, some 32), (196, _, some 50)] rfl rfl rfl rfl ⟨⟨rfl, rfl, rfl⟩, ⟨rfl, rfl, rfl⟩, trivial⟩ (fun _ ext => TL.pickT hF rfl rfl rfl rfl TL.fin) ?_
   refine DH.pure (i := 52) [(197, _, some 51)] rfl rfl rfl rfl ⟨⟨rfl, rfl, rfl⟩, trivial⟩ (fun _ ext => TL.move hF rfl rfl TL.fin) ?_
   refine DH.pure (i := 53) [(10, _, none), (198, _, some 52)] rfl rfl rfl rfl ⟨⟨rfl, by kernel_rfl⟩, ⟨rfl, rfl, rfl⟩, trivial⟩ (fun _ ext => TL.on rfl rfl rfl rfl <| TL.move hF rfl rfl TL.fin) ?_
   refine DH.pure (i := 54) [(199, _, some 53), (198, _, some 52)] rfl rfl rfl rfl ⟨⟨rfl, rfl, rfl⟩, ⟨rfl, rfl, rfl⟩, trivial⟩ (fun _ ext => TL.on rfl rfl rfl rfl <| TL.indexAddr hF rfl rfl (hl10.ad (i := 0) (show 0 < 1 by decide)) (by decide) (show (0 : Int) < ((1 : Nat) : Int) by decide) rfl TL.fin) ?_
   refine DH.read (i := 55) [(200, _, some 54), (198, _, some 52)] rfl rfl rfl rfl ⟨⟨rfl, rfl, rfl⟩, ⟨rfl, rfl, rfl⟩, trivial⟩ (fun ext => TL.on rfl rfl rfl rfl <| TL.loadA hF (rhC x10) rfl rfl (hl10.ro.atA (i := 0) (show 0 < 1 by decide)) rfl TL.fin) ?_
   refine DH.pure (i := 56) [(198, _, some 52)] rfl rfl rfl rfl ⟨⟨rfl, rfl, rfl⟩, trivial⟩ (fun _ ext => TL.on rfl rfl rfl rfl <| TL.callV hF (at_fn 0 1) rfl rfl TL.fin) ?_
   refine DH.pure (i := 57) [(198, _, some 52)] rfl rfl rfl rfl ⟨⟨rfl, rfl, rfl⟩, trivial⟩ (fun _ ext => TL.on rfl rfl rfl rfl <| TL.callV hF (at_fn 0 2) rfl rfl TL.fin) ?_
   refine DH.pure (i := 59) [(198, _, some 52)] rfl rfl rfl rfl ⟨⟨rfl, rfl, rfl⟩, trivial⟩ (fun _ ext => TL.on rfl rfl rfl rfl <| TL.callV hF (at_fn 0 0) rfl rfl TL.fin) ?_
   refine DH.pure (i := 60) [(198, _, some 52)] rfl rfl rfl rfl ⟨⟨rfl, rfl, rfl⟩, trivial⟩ (fun _ ext => TL.on rfl rfl rfl rfl <| TL.callV hF (at_fn 0 3) rfl rfl TL.fin) ?_
   refine DH.pure (i := 61) [(198, _, some 52)] rfl rfl rfl rfl ⟨⟨rfl, rfl, rfl⟩, trivial⟩ (fun _ ext => TL.on rfl rfl rfl rfl <| TL.callV hF (at_fn 1 4) rfl rfl TL.fin) ?_
   refine DH.k2 (by kernel_rfl) (by kernel_rfl) (by kernel_rfl) (by kernel_rfl) (HBK.mk (h := 58) [55] [(202, _, some 56), (203, _, some 57), (198, _, some 52)] rfl rfl rfl ⟨⟨rfl, rfl, rfl⟩, ⟨rfl, rfl, rfl⟩, ⟨rfl, rfl, rfl⟩, trivial⟩ (by kernel_rfl) (fun ext => ?_)) (HBK.mk (h := 62) [55] [(205, _, some 59), (206, _, some 60), (207, _, some 61), (198, _, some 52)] rfl rfl rfl ⟨⟨rfl, rfl, rfl⟩, ⟨rfl, rfl, rfl⟩, ⟨rfl, rfl, rfl⟩, ⟨rfl, rfl, rfl⟩, trivial⟩ (by kernel_rfl) (fun ext => ?_))
   ·refine TL.on rfl rfl rfl rfl ?_
    refine TL.buildSlice hF rfl (cs := (([(0, 1), (0, 2)] : List Key).flatMap kC).toArray) (e := 25) (fun w => by kernel_rfl) rfl (fun b204 => ?_)
    refine TL.finK ⟨⟨_, rfl, _, _, [(200, _, some 54), (198, _, some 52)], rfl, rfl, ⟨⟨rfl, rfl, rfl⟩, ⟨rfl, rfl, rfl⟩, trivial⟩, fun ext => TL.on rfl rfl rfl rfl <| TL.loadA hF (rhC x10) rfl rfl (hl10.ro.atA (i := 0) (show 0 < 1 by decide)) rfl TL.fin⟩, trivial⟩ ?_
    refine DH.k1 (by kernel_rfl) (by kernel_rfl) (by kernel_rfl) (by kernel_rfl) (HBK.mk (h := 62) [55] [(205, _, some 59), (206, _, some 60), (207, _, some 61), (198, _, some 52)] rfl rfl rfl ⟨⟨rfl, rfl, rfl⟩, ⟨rfl, rfl, rfl⟩, ⟨rfl, rfl, rfl⟩, ⟨rfl, rfl, rfl⟩, trivial⟩ (by kernel_rfl) (fun ext => ?_))
    refine TL.on rfl rfl rfl rfl ?_
    refine TL.buildSlice hF rfl (cs := (([(0, 0), (0, 3), (1, 4)] : List Key).flatMap kC).toArray) (e := 25) (fun w => by kernel_rfl) rfl (fun b208 => ?_)
    refine TL.finK ⟨⟨_, rfl, _, _, [(200, _, some 54), (198, _, some 52)], rfl, rfl, ⟨⟨rfl, rfl, rfl⟩, ⟨rfl, rfl, rfl⟩, trivial⟩, fun ext => TL.on rfl rfl rfl rfl <| TL.loadA hF (rhC x10) rfl rfl (hl10.ro.atA (i := 0) (show 0 < 1 by decide)) rfl TL.fin⟩, trivial⟩ ?_
    refine DH.pure (i := 63) [(204, _, some 58), (208, _, some 62), (198, _, some 52)] rfl rfl rfl rfl ⟨⟨rfl, rfl, rfl⟩, ⟨rfl, rfl, rfl⟩, ⟨rfl, rfl, rfl⟩, trivial⟩ (fun _ ext => TL.on rfl rfl rfl rfl <| TL.build hF rfl (r := .agg (rhC ⟨⟨1, [(0, 1), (0, 2)], [], [(0, 0), (0, 3), (1, 4)], []⟩, some ⟨b204, 0, none⟩, 2, none, 0, some ⟨b208, 0, none⟩, 3, none, 0⟩).toArray) (fun w => by kernel_rfl) rfl TL.fin) ?_
    refine DH.done [(209, _), (208, _), (204, _), (207, _), (206, _), (205, _), (203, _), (202, _), (201, _), (200, _), (199, _), (198, _), (197, _), (196, _), (195, _), (194, _), (193, _), (192, _), (191, _), (190, _), (189, _), (188, _), (187, _), (186, _), (185, _), (184, _), (183, _), (182, _), (181, _), (180, _), (179, _), (178, _), (177, _), (176, _), (175, _), (174, _), (173, _), (172, _), (171, _), (170, _), (169, _), (168, _), (167, _), (165, _), (166, _), (164, _), (163, _), (162, _), (161, _), (160, _), (159, _), (158, _), (157, _), (156, _), (155, _), (154, _), (151, _), (153, _), (152, _), (150, _), (149, _), (148, _), (147, _), (146, _)] [_, _, _] (by kernel_rfl) (by kernel_rfl) (by kernel_rfl) (by kernel_rfl) rfl rfl ?_
    refine TL.on rfl rfl rfl rfl ?_
    refine TL.callV hF (round_true (r := ⟨1, [(0, 1), (0, 2)], [], [(0, 0), (0, 3), (1, 4)], []⟩) ((hl10.item _ (by simp)).up (by simp)) (y := ⟨⟨1, [(0, 1), (0, 2)], [], [(0, 0), (0, 3), (1, 4)], []⟩, some ⟨b204, 0, none⟩, 2, none, 0, some ⟨b208, 0, none⟩, 3, none, 0⟩) ⟨(row_own (b := b204) (cs := ([(0, 1), (0, 2)] : List Key).flatMap kC) (e := 25) (by simp)), Row.none, (row_own (b := b208) (cs := ([(0, 0), (0, 3), (1, 4)] : List Key).flatMap kC) (e := 25) (by simp)), Row.none⟩ hx10 rfl (by decide)) rfl rfl ?_
    refine TL.pickT hF rfl rfl rfl rfl ?_
    refine TL.assign hF rfl rfl ?_
    refine TL.nil ?_
    refine TQ.then_n ?_
    refine T.ret ?_
    exact TQ.retsF [0] _ hb rfl rfl rfl (fun _ => rfl)
   ·refine TL.on rfl rfl rfl rfl ?_
    refine TL.buildSlice hF rfl (cs := (([(0, 0), (0, 3), (1, 4)] : List Key).flatMap kC).toArray) (e := 25) (fun w => by kernel_rfl) rfl (fun b208 => ?_)
    refine TL.finK ⟨⟨_, rfl, _, _, [(200, _, some 54), (198, _, some 52)], rfl, rfl, ⟨⟨rfl, rfl, rfl⟩, ⟨rfl, rfl, rfl⟩, trivial⟩, fun ext => TL.on rfl rfl rfl rfl <| TL.loadA hF (rhC x10) rfl rfl (hl10.ro.atA (i := 0) (show 0 < 1 by decide)) rfl TL.fin⟩, trivial⟩ ?_
    refine DH.k1 (by kernel_rfl) (by kernel_rfl) (by kernel_rfl) (by kernel_rfl) (HBK.mk (h := 58) [55] [(202, _, some 56), (203, _, some 57), (198, _, some 52)] rfl rfl rfl ⟨⟨rfl, rfl, rfl⟩, ⟨rfl, rfl, rfl⟩, ⟨rfl, rfl, rfl⟩, trivial⟩ (by kernel_rfl) (fun ext => ?_))
    refine TL.on rfl rfl rfl rfl ?_
    refine TL.buildSlice hF rfl (cs := (([(0, 1), (0, 2)] : List Key).flatMap kC).toArray) (e := 25) (fun w => by kernel_rfl) rfl (fun b204 => ?_)
    refine TL.finK ⟨⟨_, rfl, _, _, [(200, _, some 54), (198, _, some 52)], rfl, rfl, ⟨⟨rfl, rfl, rfl⟩, ⟨rfl, rfl, rfl⟩, trivial⟩, fun ext => TL.on rfl rfl rfl rfl <| TL.loadA hF (rhC x10) rfl rfl (hl10.ro.atA (i := 0) (show 0 < 1 by decide)) rfl TL.fin⟩, trivial⟩ ?_
    refine DH.pure (i := 63) [(204, _, some 58), (208, _, some 62), (198, _, some 52)] rfl rfl rfl rfl ⟨⟨rfl, rfl, rfl⟩, ⟨rfl, rfl, rfl⟩, ⟨rfl, rfl, rfl⟩, trivial⟩ (fun _ ext => TL.on rfl rfl rfl rfl <| TL.build hF rfl (r := .agg (rhC ⟨⟨1, [(0, 1), (0, 2)], [], [(0, 0), (0, 3), (1, 4)], []⟩, some ⟨b204, 0, none⟩, 2, none, 0, some ⟨b208, 0, none⟩, 3, none, 0⟩).toArray) (fun w => by kernel_rfl) rfl TL.fin) ?_
    refine DH.done [(209, _), (204, _), (208, _), (207, _), (206, _), (205, _), (203, _), (202, _), (201, _), (200, _), (199, _), (198, _), (197, _), (196, _), (195, _), (194, _), (193, _), (192, _), (191, _), (190, _), (189, _), (188, _), (187, _), (186, _), (185, _), (184, _), (183, _), (182, _), (181, _), (180, _), (179, _), (178, _), (177, _), (176, _), (175, _), (174, _), (173, _), (172, _), (171, _), (170, _), (169, _), (168, _), (167, _), (165, _), (166, _), (164, _), (163, _), (162, _), (161, _), (160, _), (159, _), (158, _), (157, _), (156, _), (155, _), (154, _), (151, _), (153, _), (152, _), (150, _), (149, _), (148, _), (147, _), (146, _)] [_, _, _] (by kernel_rfl) (by kernel_rfl) (by kernel_rfl) (by kernel_rfl) rfl rfl ?_
    refine TL.on rfl rfl rfl rfl ?_
    refine TL.callV hF (round_true (r := ⟨1, [(0, 1), (0, 2)], [], [(0, 0), (0, 3), (1, 4)], []⟩) ((hl10.item _ (by simp)).up (by simp)) (y := ⟨⟨1, [(0, 1), (0, 2)], [], [(0, 0), (0, 3), (1, 4)], []⟩, some ⟨b204, 0, none⟩, 2, none, 0, some ⟨b208, 0, none⟩, 3, none, 0⟩) ⟨(row_own (b := b204) (cs := ([(0, 1), (0, 2)] : List Key).flatMap kC) (e := 25) (by simp)), Row.none, (row_own (b := b208) (cs := ([(0, 0), (0, 3), (1, 4)] : List Key).flatMap kC) (e := 25) (by simp)), Row.none⟩ hx10 rfl (by decide)) rfl rfl ?_
    refine TL.pickT hF rfl rfl rfl rfl ?_
    refine TL.assign hF rfl rfl ?_
    refine TL.nil ?_
    refine TQ.then_n ?_
    refine T.ret ?_
    exact TQ.retsF [0] _ hb rfl rfl rfl (fun _ => rfl)
  ·refine TL.on rfl rfl rfl rfl ?_
   refine TL.buildSlice hF rfl (cs := (([(0, 0)] : List Key).flatMap kC).toArray) (e := 25) (fun w => by kernel_rfl) rfl (fun b167 => ?_)
   refine TL.finK ⟨⟨_, rfl, _, _, [(159, _, some 13), (157, _, some 11)], rfl, rfl, ⟨⟨rfl, rfl, rfl⟩, ⟨rfl, rfl, rfl⟩, trivial⟩, fun ext => TL.on rfl rfl rfl rfl <| TL.loadA hF (rhC x8) rfl rfl (hl8.ro.atA (i := 0) (show 0 < 2 by decide)) rfl TL.fin⟩, trivial⟩ ?_
   refine DH.k1 (by kernel_rfl) (by kernel_rfl) (by kernel_rfl) (by kernel_rfl) (HBK.mk (h := 19) [14] [(161, _, some 15), (162, _, some 16), (163, _, some 17), (164, _, some 18), (157, _, some 11)] rfl rfl rfl ⟨⟨rfl, rfl, rfl⟩, ⟨rfl, rfl, rfl⟩, ⟨rfl, rfl, rfl⟩, ⟨rfl, rfl, rfl⟩, ⟨rfl, rfl, rfl⟩, trivial⟩ (by kernel_rfl) (fun ext => ?_))
   refine TL.on rfl rfl rfl rfl ?_
   refine TL.buildSlice hF rfl (cs := (([(0, 1), (0, 2), (0, 3), (1, 4)] : List Key).flatMap kC).toArray) (e := 25) (fun w => by kernel_rfl) rfl (fun b165 => ?_)
   refine TL.finK ⟨⟨_, rfl, _, _, [(159, _, some 13), (157, _, some 11)], rfl, rfl, ⟨⟨rfl, rfl, rfl⟩, ⟨rfl, rfl, rfl⟩, trivial⟩, fun ext => TL.on rfl rfl rfl rfl <| TL.loadA hF (rhC x8) rfl rfl (hl8.ro.atA (i := 0) (show 0 < 2 by decide)) rfl TL.fin⟩, trivial⟩ ?_
   refine DH.pure (i := 22) [(165, _, some 19), (167, _, some 21), (157, _, some 11)] rfl rfl rfl rfl ⟨⟨rfl, rfl, rfl⟩, ⟨rfl, rfl, rfl⟩, ⟨rfl, rfl, rfl⟩, trivial⟩ (fun _ ext => TL.on rfl rfl rfl rfl <| TL.build hF rfl (r := .agg (rhC ⟨⟨1, [(0, 1), (0, 2), (0, 3), (1, 4)], [], [(0, 0)], []⟩, some ⟨b165, 0, none⟩, 4, none, 0, some ⟨b167, 0, none⟩, 1, none, 0⟩).toArray) (fun w => by kernel_rfl) rfl TL.fin) ?_
   refine DH.read (i := 23) [(160, _, some 14), (168, _, some 22), (157, _, some 11)] rfl rfl rfl rfl ⟨⟨rfl, rfl, rfl⟩, ⟨rfl, rfl, rfl⟩, ⟨rfl, rfl, rfl⟩, trivial⟩ (fun ext => TL.on rfl rfl rfl rfl <| TL.callV hF (round_true (r := ⟨1, [(0, 1), (0, 2), (0, 3), (1, 4)], [], [(0, 0)], []⟩) ((hl8.item _ (by simp)).up (by simp)) (y := ⟨⟨1, [(0, 1), (0, 2), (0, 3), (1, 4)], [], [(0, 0)], []⟩, some ⟨b165, 0, none⟩, 4, none, 0, some ⟨b167, 0, none⟩, 1, none, 0⟩) ⟨(row_own (b := b165) (cs := ([(0, 1), (0, 2), (0, 3), (1, 4)] : List Key).flatMap kC) (e := 25) (by simp)), Row.none, (row_own (b := b167) (cs := ([(0, 0)] : List Key).flatMap kC) (e := 25) (by simp)), Row.none⟩ hx8 rfl (by decide)) rfl rfl TL.fin) ?_
   refine DH.pure (i := 24) [(157, _, some 11), (169, _, some 23)] rfl rfl rfl rfl ⟨⟨rfl, rfl, rfl⟩, ⟨rfl, rfl, rfl⟩, trivial⟩ (fun _ ext => TL.pickT hF rfl rfl rfl rfl TL.fin) ?_
   refine DH.pure (i := 25) [(170, _, some 24)] rfl rfl rfl rfl ⟨⟨rfl, rfl, rfl⟩, trivial⟩ (fun _ ext => TL.move hF rfl rfl TL.fin) ?_
   refine DH.pure (i := 26) [(8, _, none), (171, _, some 25)] rfl rfl rfl rfl ⟨⟨rfl, by kernel_rfl⟩, ⟨rfl, rfl, rfl⟩, trivial⟩ (fun _ ext => TL.on rfl rfl rfl rfl <| TL.move hF rfl rfl TL.fin) ?_
   refine DH.pure (i := 27) [(172, _, some 26), (171, _, some 25)] rfl rfl rfl rfl ⟨⟨rfl, rfl, rfl⟩, ⟨rfl, rfl, rfl⟩, trivial⟩ (fun _ ext => TL.on rfl rfl rfl rfl <| TL.indexAddr hF rfl rfl (hl8.ad (i := 1) (show 1 < 2 by decide)) (by decide) (show (1 : Int) < ((2 : Nat) : Int) by decide) rfl TL.fin) ?_
   refine DH.pure (i := 28) [(173, _, some 27), (171, _, some 25)] rfl rfl rfl rfl ⟨⟨rfl, rfl, rfl⟩, ⟨rfl, rfl, rfl⟩, trivial⟩ (fun _ ext => TL.on rfl rfl rfl rfl <| TL.fieldAddr hF rfl rfl TL.fin) ?_
   refine DH.read (i := 29) [(174, _, some 28), (171, _, some 25)] rfl rfl rfl rfl ⟨⟨rfl, rfl, rfl⟩, ⟨rfl, rfl, rfl⟩, trivial⟩ (fun ext => TL.on rfl rfl rfl rfl <| TL.load hF rfl (show At _ _ _ _ (.int .i64 1) from (hl8.ro.atA (i := 1) (show 1 < 2 by decide) 0 _ (by rw [show ([x8, y8] : List RH)[1] = y8 from rfl]; unfold rhC; rw [hy8]; rfl))) rfl TL.fin) ?_
   refine DH.pure (i := 30) [(175, _, some 29), (171, _, some 25)] rfl rfl rfl rfl ⟨⟨rfl, rfl, rfl⟩, ⟨rfl, rfl, rfl⟩, trivial⟩ (fun _ ext => TL.on rfl rfl rfl rfl <| TL.bin hF rfl rfl rfl rfl TL.fin) ?_
   refine DH.pure (i := 31) [(171, _, some 25), (176, _, some 30)] rfl rfl rfl rfl ⟨⟨rfl, rfl, rfl⟩, ⟨rfl, rfl, rfl⟩, trivial⟩ (fun _ ext => TL.pickT hF rfl rfl rfl rfl TL.fin) ?_
   refine DH.pure (i := 32) [(177, _, some 31)] rfl rfl rfl rfl ⟨⟨rfl, rfl, rfl⟩, trivial⟩ (fun _ ext => TL.move hF rfl rfl TL.fin) ?_
   refine DH.pure (i := 33) [(8, _, none), (178, _, some 32)] rfl rfl rfl rfl ⟨⟨rfl, by kernel_rfl⟩, ⟨rfl, rfl, rfl⟩, trivial⟩ (fun _ ext => TL.on rfl rfl rfl rfl <| TL.move hF rfl rfl TL.fin) ?_
   refine DH.pure (i := 34) [(179, _, some 33), (178, _, some 32)] rfl rfl rfl rfl ⟨⟨rfl, rfl, rfl⟩, ⟨rfl, rfl, rfl⟩, trivial⟩ (fun _ ext => TL.on rfl rfl rfl rfl <| TL.indexAddr hF rfl rfl (hl8.ad (i := 1) (show 1 < 2 by decide)) (by decide) (show (1 : Int) < ((2 : Nat) : Int) by decide) rfl TL.fin) ?_
   refine DH.pure (i := 35) [(180, _, some 34), (178, _, some 32)] rfl rfl rfl rfl ⟨⟨rfl, rfl, rfl⟩, ⟨rfl, rfl, rfl⟩, trivial⟩ (fun _ ext => TL.on rfl rfl rfl rfl <| TL.fieldAddr hF rfl rfl TL.fin) ?_
   refine DH.read (i := 36) [(181, _, some 35), (178, _, some 32)] rfl rfl rfl rfl ⟨⟨rfl, rfl, rfl⟩, ⟨rfl, rfl, rfl⟩, trivial⟩ (fun ext => TL.on rfl rfl rfl rfl <| TL.load hF rfl (show At _ _ _ _ (.slice y8.a1 0 y8.c1) from (hl8.ro.atA (i := 1) (show 1 < 2 by decide) 1 _ (by rw [show ([x8, y8] : List RH)[1] = y8 from rfl]; unfold rhC; rw [hy8]; rfl))) rfl TL.fin) ?_
   refine DH.pure (i := 37) [(182, _, some 36), (178, _, some 32)] rfl rfl rfl rfl ⟨⟨rfl, rfl, rfl⟩, ⟨rfl, rfl, rfl⟩, trivial⟩ (fun _ ext => TL.on rfl rfl rfl rfl <| TL.len hF rfl rfl TL.fin) ?_
   refine DH.pure (i := 38) [(8, _, none), (178, _, some 32)] rfl rfl rfl rfl ⟨⟨rfl, by kernel_rfl⟩, ⟨rfl, rfl, rfl⟩, trivial⟩ (fun _ ext => TL.on rfl rfl rfl rfl <| TL.move hF rfl rfl TL.fin) ?_
   refine DH.pure (i := 39) [(184, _, some 38), (178, _, some 32)] rfl rfl rfl rfl ⟨⟨rfl, rfl, rfl⟩, ⟨rfl, rfl, rfl⟩, trivial⟩ (fun _ ext => TL.on rfl rfl rfl rfl <| TL.indexAddr hF rfl rfl (hl8.ad (i := 1) (show 1 < 2 by decide)) (by decide) (show (1 : Int) < ((2 : Nat) : Int) by decide) rfl TL.fin) ?_
   refine DH.pure (i := 40) [(185, _, some 39), (178, _, some 32)] rfl rfl rfl rfl ⟨⟨rfl, rfl, rfl⟩, ⟨rfl, rfl, rfl⟩, trivial⟩ (fun _ ext => TL.on rfl rfl rfl rfl <| TL.fieldAddr hF rfl rfl TL.fin) ?_
   refine DH.read (i := 41) [(186, _, some 40), (178, _, some 32)] rfl rfl rfl rfl ⟨⟨rfl, rfl, rfl⟩, ⟨rfl, rfl, rfl⟩, trivial⟩ (fun ext => TL.on rfl rfl rfl rfl <| TL.load hF rfl (show At _ _ _ _ (.slice y8.a2 0 y8.c2) from (hl8.ro.atA (i := 1) (show 1 < 2 by decide) 2 _ (by rw [show ([x8, y8] : List RH)[1] = y8 from rfl]; unfold rhC; rw [hy8]; rfl))) rfl TL.fin) ?_
   refine DH.pure (i := 42) [(187, _, some 41), (178, _, some 32)] rfl rfl rfl rfl ⟨⟨rfl, rfl, rfl⟩, ⟨rfl, rfl, rfl⟩, trivial⟩ (fun _ ext => TL.on rfl rfl rfl rfl <| TL.len hF rfl rfl TL.fin) ?_
   refine DH.pure (i := 43) [(183, _, some 37), (188, _, some 42), (178, _, some 32)] rfl rfl rfl rfl ⟨⟨rfl, rfl, rfl⟩, ⟨rfl, rfl, rfl⟩, ⟨rfl, rfl, rfl⟩, trivial⟩ (fun _ ext => TL.on rfl rfl rfl rfl <| TL.add hF rfl rfl (by decide) (by decide) rfl TL.fin) ?_
   refine DH.pure (i := 44) [(8, _, none), (178, _, some 32)] rfl rfl rfl rfl ⟨⟨rfl, by kernel_rfl⟩, ⟨rfl, rfl, rfl⟩, trivial⟩ (fun _ ext => TL.on rfl rfl rfl rfl <| TL.move hF rfl rfl TL.fin) ?_
   refine DH.pure (i := 45) [(190, _, some 44), (178, _, some 32)] rfl rfl rfl rfl ⟨⟨rfl, rfl, rfl⟩, ⟨rfl, rfl, rfl⟩, trivial⟩ (fun _ ext => TL.on rfl rfl rfl rfl <| TL.indexAddr hF rfl rfl (hl8.ad (i := 1) (show 1 < 2 by decide)) (by decide) (show (1 : Int) < ((2 : Nat) : Int) by decide) rfl TL.fin) ?_
   refine DH.pure (i := 46) [(191, _, some 45), (178, _, some 32)] rfl rfl rfl rfl ⟨⟨rfl, rfl, rfl⟩, ⟨rfl, rfl, rfl⟩, trivial⟩ (fun _ ext => TL.on rfl rfl rfl rfl <| TL.fieldAddr hF rfl rfl TL.fin) ?_
   refine DH.read (i := 47) [(192, _, some 46), (178, _, some 32)] rfl rfl rfl rfl ⟨⟨rfl, rfl, rfl⟩, ⟨rfl, rfl, rfl⟩, trivial⟩ (fun ext => TL.on rfl rfl rfl rfl <| TL.load hF rfl (show At _ _ _ _ (.slice y8.a4 0 y8.c4) from (hl8.ro.atA (i := 1) (show 1 < 2 by decide) 4 _ (by rw [show ([x8, y8] : List RH)[1] = y8 from rfl]; unfold rhC; rw [hy8]; rfl))) rfl TL.fin) ?_
   refine DH.pure (i := 48) [(193, _, some 47), (178, _, some 32)] rfl rfl rfl rfl ⟨⟨rfl, rfl, rfl⟩, ⟨rfl, rfl, rfl⟩, trivial⟩ (fun _ ext => TL.on rfl rfl rfl rfl <| TL.len hF rfl rfl TL.fin) ?_
   refine DH.pure (i := 49) [(189, _, some 43), (194, _, some 48), (178, _, some 32)] rfl rfl rfl rfl ⟨⟨rfl, rfl, rfl⟩, ⟨rfl, rfl, rfl⟩, ⟨rfl, rfl, rfl⟩, trivial⟩ (fun _ ext => TL.on rfl rfl rfl rfl <| TL.add hF rfl rfl (by decide) (by decide) rfl TL.fin) ?_
   refine DH.pure (i := 50) [(195, _, some 49), (178, _, some 32)] rfl rfl rfl rfl ⟨⟨rfl, rfl, rfl⟩, ⟨rfl, rfl, rfl⟩, trivial⟩ (fun _ ext => TL.on rfl rfl rfl rfl <| TL.bin hF rfl rfl rfl rfl TL.fin) ?_
   refine DH.pure (i := 51) [(178, _, some 32), (196, _, some 50)] rfl rfl rfl rfl ⟨⟨rfl, rfl, rfl⟩, ⟨rfl, rfl, rfl⟩, trivial⟩ (fun _ ext => TL.pickT hF rfl rfl rfl rfl TL.fin) ?_
   refine DH.pure (i := 52) [(197, _, some 51)] rfl rfl rfl rfl ⟨⟨rfl, rfl, rfl⟩, trivial⟩ (fun _ ext => TL.move hF rfl rfl TL.fin) ?_
   refine DH.pure (i := 53) [(10, _, none), (198, _, some 52)] rfl rfl rfl rfl ⟨⟨rfl, by kernel_rfl⟩, ⟨rfl, rfl, rfl⟩, trivial⟩ (fun _ ext => TL.on rfl rfl rfl rfl <| TL.move hF rfl rfl TL.fin) ?_
   refine DH.pure (i := 54) [(199, _, some 53), (198, _, some 52)] rfl rfl rfl rfl ⟨⟨rfl, rfl, rfl⟩, ⟨rfl, rfl, rfl⟩, trivial⟩ (fun _ ext => TL.on rfl rfl rfl rfl <| TL.indexAddr hF rfl rfl (hl10.ad (i := 0) (show 0 < 1 by decide)) (by decide) (show (0 : Int) < ((1 : Nat) : Int) by decide) rfl TL.fin) ?_
   refine DH.read (i := 55) [(200, _, some 54), (198, _, some 52)] rfl rfl rfl rfl ⟨⟨rfl, rfl, rfl⟩, ⟨rfl, rfl, rfl⟩, trivial⟩ (fun ext => TL.on rfl rfl rfl rfl <| TL.loadA hF (rhC x10) rfl rfl (hl10.ro.atA (i := 0) (show 0 < 1 by decide)) rfl TL.fin) ?_
   refine DH.pure (i := 56) [(198, _, some 52)] rfl rfl rfl rfl ⟨⟨rfl, rfl, rfl⟩, trivial⟩ (fun _ ext => TL.on rfl rfl rfl rfl <| TL.callV hF (at_fn 0 1) rfl rfl TL.fin) ?_
   refine DH.pure (i := 57) [(198, _, some 52)] rfl rfl rfl rfl ⟨⟨rfl, rfl, rfl⟩, trivial⟩ (fun _ ext => TL.on rfl rfl rfl rfl <| TL.callV hF (at_fn 0 2) rfl rfl TL.fin) ?_
   refine DH.pure (i := 59) [(198, _, some 52)] rfl rfl rfl rfl ⟨⟨rfl, rfl, rfl⟩, trivial⟩ (fun _ ext => TL.on rfl rfl rfl rfl <| TL.callV hF (at_fn 0 0) rfl rfl TL.fin) ?_
   refine DH.pure (i := 60) [(198, _, some 52)] rfl rfl rfl rfl ⟨⟨rfl, rfl, rfl⟩, trivial⟩ (fun _ ext => TL.on rfl rfl rfl rfl <| TL.callV hF (at_fn 0 3) rfl rfl TL.fin) ?_
   refine DH.pure (i := 61) [(198, _, some 52)] rfl rfl rfl rfl ⟨⟨rfl, rfl, rfl⟩, trivial⟩ (fun _ ext => TL.on rfl rfl rfl rfl <| TL.callV hF (at_fn 1 4) rfl rfl TL.fin) ?_
   refine DH.k2 (by kernel_rfl) (by kernel_rfl) (by kernel_rfl) (by kernel_rfl) (HBK.mk (h := 58) [55] [(202, _, some 56), (203, _, some 57), (198, _, some 52)] rfl rfl rfl ⟨⟨rfl, rfl, rfl⟩, ⟨rfl, rfl, rfl⟩, ⟨rfl, rfl, rfl⟩, trivial⟩ (by kernel_rfl) (fun ext => ?_)) (HBK.mk (h := 62) [55] [(205, _, some 59), (206, _, some 60), (207, _, some 61), (198, _, some 52)] rfl rfl rfl ⟨⟨rfl, rfl, rfl⟩, ⟨rfl, rfl, rfl⟩, ⟨rfl, rfl, rfl⟩, ⟨rfl, rfl, rfl⟩, trivial⟩ (by kernel_rfl) (fun ext => ?_))
   ·refine TL.on rfl rfl rfl rfl ?_
    refine TL.buildSlice hF rfl (cs := (([(0, 1), (0, 2)] : List Key).flatMap kC).toArray) (e := 25) (fun w => by kernel_rfl) rfl (fun b204 => ?_)
    refine TL.finK ⟨⟨_, rfl, _, _, [(200, _, some 54), (198, _, some 52)], rfl, rfl, ⟨⟨rfl, rfl, rfl⟩, ⟨rfl, rfl, rfl⟩, trivial⟩, fun ext => TL.on rfl rfl rfl rfl <| TL.loadA hF (rhC x10) rfl rfl (hl10.ro.atA (i := 0) (show 0 < 1 by decide)) rfl TL.fin⟩, trivial⟩ ?_
    refine DH.k1 (by kernel_rfl) (by kernel_rfl) (by kernel_rfl) (by kernel_rfl) (HBK.mk (h := 62) [55] [(205, _, some 59), (206, _, some 60), (207, _, some 61), (198, _, some 52)] rfl rfl rfl ⟨⟨rfl, rfl, rfl⟩, ⟨rfl, rfl, rfl⟩, ⟨rfl, rfl, rfl⟩, ⟨rfl, rfl, rfl⟩, trivial⟩ (by kernel_rfl) (fun ext => ?_))
    refine TL.on rfl rfl rfl rfl ?_
    refine TL.buildSlice hF rfl (cs := (([(0, 0), (0, 3), (1, 4)] : List Key).flatMap kC).toArray) (e := 25) (fun w => by kernel_rfl) rfl (fun b208 => ?_)
    refine TL.finK ⟨⟨_, rfl, _, _, [(200, _, some 54), (198, _, some 52)], rfl, rfl, ⟨⟨rfl, rfl, rfl⟩, ⟨rfl, rfl, rfl⟩, trivial⟩, fun ext => TL.on rfl rfl rfl rfl <| TL.loadA hF (rhC x10) rfl rfl (hl10.ro.atA (i := 0) (show 0 < 1 by decide)) rfl TL.fin⟩, trivial⟩ ?_
    refine DH.pure (i := 63) [(204, _, some 58), (208, _, some 62), (198, _, some 52)] rfl rfl rfl rfl ⟨⟨rfl, rfl, rfl⟩, ⟨rfl, rfl, rfl⟩, ⟨rfl, rfl, rfl⟩, trivial⟩ (fun _ ext => TL.on rfl rfl rfl rfl <| TL.build hF rfl (r := .agg (rhC ⟨⟨1, [(0, 1), (0, 2)], [], [(0, 0), (0, 3), (1, 4)], []⟩, some ⟨b204, 0, none⟩, 2, none, 0, some ⟨b208, 0, none⟩, 3, none, 0⟩).toArray) (fun w => by kernel_rfl) rfl TL.fin) ?_
    refine DH.done [(209, _), (208, _), (204, _), (207, _), (206, _), (205, _), (203, _), (202, _), (201, _), (200, _), (199, _), (198, _), (197, _), (196, _), (195, _), (194, _), (193, _), (192, _), (191, _), (190, _), (189, _), (188, _), (187, _), (186, _), (185, _), (184, _), (183, _), (182, _), (181, _), (180, _), (179, _), (178, _), (177, _), (176, _), (175, _), (174, _), (173, _), (172, _), (171, _), (170, _), (169, _), (168, _), (165, _), (167, _), (166, _), (164, _), (163, _), (162, _), (161, _), (160, _), (159, _), (158, _), (157, _), (156, _), (155, _), (154, _), (151, _), (153, _), (152, _), (150, _), (149, _), (148, _), (147, _), (146, _)] [_, _, _] (by kernel_rfl) (by kernel_rfl) (by kernel_rfl) (by kernel_rfl) rfl rfl ?_
    refine TL.on rfl rfl rfl rfl ?_
    refine TL.callV hF (round_true (r := ⟨1, [(0, 1), (0, 2)], [], [(0, 0), (0, 3), (1, 4)], []⟩) ((hl10.item _ (by simp)).up (by simp)) (y := ⟨⟨1, [(0, 1), (0, 2)], [], [(0, 0), (0, 3), (1, 4)], []⟩, some ⟨b204, 0, none⟩, 2, none, 0, some ⟨b208, 0, none⟩, 3, none, 0⟩) ⟨(row_own (b := b204) (cs := ([(0, 1), (0, 2)] : List Key).flatMap kC) (e := 25) (by simp)), Row.none, (row_own (b := b208) (cs := ([(0, 0), (0, 3), (1, 4)] : List Key).flatMap kC) (e := 25) (by simp)), Row.none⟩ hx10 rfl (by decide)) rfl rfl ?_
    refine TL.pickT hF rfl rfl rfl rfl ?_
    refine TL.assign hF rfl rfl ?_
    refine TL.nil ?_
    refine TQ.then_n ?_
    refine T.ret ?_
    exact TQ.retsF [0] _ hb rfl rfl rfl (fun _ => rfl)
   ·refine TL.on rfl rfl rfl rfl ?_
    refine TL.buildSlice hF rfl (cs := (([(0, 0), (0, 3), (1, 4)] : List Key).flatMap kC).toArray) (e := 25) (fun w => by kernel_rfl) rfl (fun b208 => ?_)
    refine TL.finK ⟨⟨_, rfl, _, _, [(200, _, some 54), (198, _, some 52)], rfl, rfl, ⟨⟨rfl, rfl, rfl⟩, ⟨rfl, rfl, rfl⟩, trivial⟩, fun ext => TL.on rfl rfl rfl rfl <| TL.loadA hF (rhC x10) rfl rfl (hl10.ro.atA (i := 0) (show 0 < 1 by decide)) rfl TL.fin⟩, trivial⟩ ?_
    refine DH.k1 (by kernel_rfl) (by kernel_rfl) (by kernel_rfl) (by kernel_rfl) (HBK.mk (h := 58) [55] [(202, _, some 56), (203, _, some 57), (198, _, some 52)] rfl rfl rfl ⟨⟨rfl, rfl, rfl⟩, ⟨rfl, rfl, rfl⟩, ⟨rfl, rfl, rfl⟩, trivial⟩ (by kernel_rfl) (fun ext => ?_))
    refine TL.on rfl rfl rfl rfl ?_
    refine TL.buildSlice hF rfl (cs := (([(0, 1), (0, 2)] : List Key).flatMap kC).toArray) (e := 25) (fun w => by kernel_rfl) rfl (fun b204 => ?_)
    refine TL.finK ⟨⟨_, rfl, _, _, [(200, _, some 54), (198, _, some 52)], rfl, rfl, ⟨⟨rfl, rfl, rfl⟩, ⟨rfl, rfl, rfl⟩, trivial⟩, fun ext => TL.on rfl rfl rfl rfl <| TL.loadA hF (rhC x10) rfl rfl (hl10.ro.atA (i := 0) (show 0 < 1 by decide)) rfl TL.fin⟩, trivial⟩ ?_
    refine DH.pure (i := 63) [(204, _, some 58), (208, _, some 62), (198, _, some 52)] rfl rfl rfl rfl ⟨⟨rfl, rfl, rfl⟩, ⟨rfl, rfl, rfl⟩, ⟨rfl, rfl, rfl⟩, trivial⟩ (fun _ ext => TL.on rfl rfl rfl rfl <| TL.build hF rfl (r := .agg (rhC ⟨⟨1, [(0, 1), (0, 2)], [], [(0, 0), (0, 3), (1, 4)], []⟩, some ⟨b204, 0, none⟩, 2, none, 0, some ⟨b208, 0, none⟩, 3, none, 0⟩).toArray) (fun w => by kernel_rfl) rfl TL.fin) ?_
    refine DH.done [(209, _), (204, _), (208, _), (207, _), (206, _), (205, _), (203, _), (202, _), (201, _), (200, _), (199, _), (198, _), (197, _), (196, _), (195, _), (194, _), (193, _), (192, _), (191, _), (190, _), (189, _), (188, _), (187, _), (186, _), (185, _), (184, _), (183, _), (182, _), (181, _), (180, _), (179, _), (178, _), (177, _), (176, _), (175, _), (174, _), (173, _), (172, _), (171, _), (170, _), (169, _), (168, _), (165, _), (167, _), (166, _), (164, _), (163, _), (162, _), (161, _), (160, _), (159, _), (158, _), (157, _), (156, _), (155, _), (154, _), (151, _), (153, _), (152, _), (150, _), (149, _), (148, _), (147, _), (146, _)] [_, _, _] (by kernel_rfl) (by kernel_rfl) (by kernel_rfl) (by kernel_rfl) rfl rfl ?_
    refine TL.on rfl rfl rfl rfl ?_
    refine TL.callV hF (round_true (r := ⟨1, [(0, 1), (0, 2)], [], [(0, 0), (0, 3), (1, 4)], []⟩) ((hl10.item _ (by simp)).up (by simp)) (y := ⟨⟨1, [(0, 1), (0, 2)], [], [(0, 0), (0, 3), (1, 4)], []⟩, some ⟨b204, 0, none⟩, 2, none, 0, some ⟨b208, 0, none⟩, 3, none, 0⟩) ⟨(row_own (b := b204) (cs := ([(0, 1), (0, 2)] : List Key).flatMap kC) (e := 25) (by simp)), Row.none, (row_own (b := b208) (cs := ([(0, 0), (0, 3), (1, 4)] : List Key).flatMap kC) (e := 25) (by simp)), Row.none⟩ hx10 rfl (by decide)) rfl rfl ?_
    refine TL.pickT hF rfl rfl rfl rfl ?_
    refine TL.assign hF rfl rfl ?_
    refine TL.nil ?_
    refine TQ.then_n ?_
    refine T.ret ?_
    exact TQ.retsF [0] _ hb rfl rfl rfl (fun _ => rfl)
 ·refine TL.buildSlice hF rfl (cs := (([(0, 0), (0, 1)] : List Key).flatMap kC).toArray) (e := 25) (fun w => by kernel_rfl) rfl (fun b154 => ?_)
  refine TL.finK ⟨⟨_, rfl, _, _, [(147, _, some 1)], rfl, rfl, ⟨⟨rfl, rfl, rfl⟩, trivial⟩, fun ext => TL.loadA hF (rhC x6) rfl rfl (hl6.ro.atA (i := 0) (show 0 < 1 by decide)) rfl TL.fin⟩, trivial⟩ ?_
  refine DH.k1 (by kernel_rfl) (by kernel_rfl) (by kernel_rfl) (by kernel_rfl) (HBK.mk (h := 5) [2] [(149, _, some 3), (150, _, some 4)] rfl rfl rfl ⟨⟨rfl, rfl, rfl⟩, ⟨rfl, rfl, rfl⟩, trivial⟩ (by kernel_rfl) (fun ext => ?_))
  refine TL.buildSlice hF rfl (cs := (([(0, 2), (0, 3)] : List Key).flatMap kC).toArray) (e := 25) (fun w => by kernel_rfl) rfl (fun b151 => ?_)
  refine TL.finK ⟨⟨_, rfl, _, _, [(147, _, some 1)], rfl, rfl, ⟨⟨rfl, rfl, rfl⟩, trivial⟩, fun ext => TL.loadA hF (rhC x6) rfl rfl (hl6.ro.atA (i := 0) (show 0 < 1 by decide)) rfl TL.fin⟩, trivial⟩ ?_
  refine DH.pure (i := 9) [(151, _, some 5), (154, _, some 8)] rfl rfl rfl rfl ⟨⟨rfl, rfl, rfl⟩, ⟨rfl, rfl, rfl⟩, trivial⟩ (fun _ ext => TL.build hF rfl (r := .agg (rhC ⟨⟨14, [(0, 2), (0, 3)], [], [(0, 0), (0, 1)], []⟩, some ⟨b151, 0, none⟩, 2, none, 0, some ⟨b154, 0, none⟩, 2, none, 0⟩).toArray) (fun w => by kernel_rfl) rfl TL.fin) ?_
  refine DH.read (i := 10) [(148, _, some 2), (155, _, some 9)] rfl rfl rfl rfl ⟨⟨rfl, rfl, rfl⟩, ⟨rfl, rfl, rfl⟩, trivial⟩ (fun ext => TL.callV hF (round_true (r := ⟨14, [(0, 2), (0, 3)], [], [(0, 0), (0, 1)], []⟩) ((hl6.item _ (by simp)).up (by simp)) (y := ⟨⟨14, [(0, 2), (0, 3)], [], [(0, 0), (0, 1)], []⟩, some ⟨b151, 0, none⟩, 2, none, 0, some ⟨b154, 0, none⟩, 2, none, 0⟩) ⟨(row_own (b := b151) (cs := ([(0, 2), (0, 3)] : List Key).flatMap kC) (e := 25) (by simp)), Row.none, (row_own (b := b154) (cs := ([(0, 0), (0, 1)] : List Key).flatMap kC) (e := 25) (by simp)), Row.none⟩ hx6 rfl (by decide)) rfl rfl TL.fin) ?_
  refine DH.pure (i := 11) [(156, _, some 10)] rfl rfl rfl rfl ⟨⟨rfl, rfl, rfl⟩, trivial⟩ (fun _ ext => TL.move hF rfl rfl TL.fin) ?_
  refine DH.pure (i := 12) [(8, _, none), (157, _, some 11)] rfl rfl rfl rfl ⟨⟨rfl, by kernel_rfl⟩, ⟨rfl, rfl, rfl⟩, trivial⟩ (fun _ ext => TL.on rfl rfl rfl rfl <| TL.move hF rfl rfl TL.fin) ?_
  refine DH.pure (i := 13) [(158, _, some 12), (157, _, some 11)] rfl rfl rfl rfl ⟨⟨rfl, rfl, rfl⟩, ⟨rfl, rfl, rfl⟩, trivial⟩ (fun _ ext => TL.on rfl rfl rfl rfl <| TL.indexAddr hF rfl rfl (hl8.ad (i := 0) (show 0 < 2 by decide)) (by decide) (show (0 : Int) < ((2 : Nat) : Int) by decide) rfl TL.fin) ?_
  refine DH.read (i := 14) [(159, _, some 13), (157, _, some 11)] rfl rfl rfl rfl ⟨⟨rfl, rfl, rfl⟩, ⟨rfl, rfl, rfl⟩, trivial⟩ (fun ext => TL.on rfl rfl rfl rfl <| TL.loadA hF (rhC x8) rfl rfl (hl8.ro.atA (i := 0) (show 0 < 2 by decide)) rfl TL.fin) ?_
  refine DH.pure (i := 15) [(157, _, some 11)] rfl rfl rfl rfl ⟨⟨rfl, rfl, rfl⟩, trivial⟩ (fun _ ext => TL.on rfl rfl rfl rfl <| TL.callV hF (at_fn 0 1) rfl rfl TL.fin) ?_
  refine DH.pure (i := 16) [(157, _, some 11)] rfl rfl rfl rfl ⟨⟨rfl, rfl, rfl⟩, trivial⟩ (fun _ ext => TL.on rfl rfl rfl rfl <| TL.callV hF (at_fn 0 2) rfl rfl TL.fin) ?_
  refine DH.pure (i := 17) [(157, _, some 11)] rfl rfl rfl rfl ⟨⟨rfl, rfl, rfl⟩, trivial⟩ (fun _ ext => TL.on rfl rfl rfl rfl <| TL.callV hF (at_fn 0 3) rfl rfl TL.fin) ?_
  refine DH.pure (i := 18) [(157, _, some 11)] rfl rfl rfl rfl ⟨⟨rfl, rfl, rfl⟩, trivial⟩ (fun _ ext => TL.on rfl rfl rfl rfl <| TL.callV hF (at_fn 1 4) rfl rfl TL.fin) ?_
  refine DH.pure (i := 20) [(157, _, some 11)] rfl rfl rfl rfl ⟨⟨rfl, rfl, rfl⟩, trivial⟩ (fun _ ext => TL.on rfl rfl rfl rfl <| TL.callV hF (at_fn 0 0) rfl rfl TL.fin) ?_
  refine DH.k2 (by kernel_rfl) (by kernel_rfl) (by kernel_rfl) (by kernel_rfl) (HBK.mk (h := 19) [14] [(161, _, some 15), (162, _, some 16), (163, _, some 17), (164, _, some 18), (157, _, some 11)] rfl rfl rfl ⟨⟨rfl, rfl, rfl⟩, ⟨rfl, rfl, rfl⟩, ⟨rfl, rfl, rfl⟩, ⟨rfl, rfl, rfl⟩, ⟨rfl, rfl, rfl⟩, trivial⟩ (by kernel_rfl) (fun ext => ?_)) (HBK.mk (h := 21) [14] [(166, _, some 20), (157, _, some 11)] rfl rfl rfl ⟨⟨rfl, rfl, rfl⟩, ⟨rfl, rfl, rfl⟩, trivial⟩ (by kernel_rfl) (fun ext => ?_))
  ·refine TL.on rfl rfl rfl rfl ?_
   refine TL.buildSlice hF rfl (cs := (([(0, 1), (0, 2), (0, 3), (1, 4)] : List Key).flatMap kC).toArray) (e := 25) (fun w => by kernel_rfl) rfl (fun b165 => ?_)
   refine TL.finK ⟨⟨_, rfl, _, _, [(159, _, some 13), (157, _, some 11)], rfl, rfl, ⟨⟨rfl, rfl, rfl⟩, ⟨rfl, rfl, rfl⟩, trivial⟩, fun ext => TL.on rfl rfl rfl rfl <| TL.loadA hF (rhC x8) rfl rfl (hl8.ro.atA (i := 0) (show 0 < 2 by decide)) rfl TL.fin⟩, trivial⟩ ?_
   refine DH.k1 (by kernel_rfl) (by kernel_rfl) (by kernel_rfl) (by kernel_rfl) (HBK.mk (h := 21) [14] [(166, _, some 20), (157, _, some 11)] rfl rfl rfl ⟨⟨rfl, rfl, rfl⟩, ⟨rfl, rfl, rfl⟩, trivial⟩ (by kernel_rfl) (fun ext => ?_))
   refine TL.on rfl rfl rfl rfl ?_
   refine TL.buildSlice hF rfl (cs := (([(0, 0)] : List Key).flatMap kC).toArray) (e := 25) (fun w => by kernel_rfl) rfl (fun b167 => ?_)
   refine TL.finK ⟨⟨_, rfl, _, _, [(159, _, some 13), (157, _, some 11)], rfl, rfl, ⟨⟨rfl, rfl, rfl⟩, ⟨rfl, rfl, rfl⟩, trivial⟩, fun ext => TL.on rfl rfl rfl rfl <| TL.loadA hF (rhC x8) rfl rfl (hl8.ro.atA (i := 0) (show 0 < 2 by decide)) rfl TL.fin⟩, trivial⟩ ?_
   refine DH.pure (i := 22) [(165, _, some 19), (167, _, some 21), (157, _, some 11)] rfl rfl rfl rfl ⟨⟨rfl, rfl, rfl⟩, ⟨rfl, rfl, rfl⟩, ⟨rfl, rfl, rfl⟩, trivial⟩ (fun _ ext => TL.on rfl rfl rfl rfl <| TL.build hF rfl (r := .agg (rhC ⟨⟨1, [(0, 1), (0, 2), (0, 3), (1, 4)], [], [(0, 0)], []⟩, some ⟨b165, 0, none⟩, 4, none, 0, some ⟨b167, 0, none⟩, 1, none, 0⟩).toArray) (fun w => by kernel_rfl) rfl TL.fin) ?_
   refine DH.read (i := 23) [(160, _, some 14), (168, _, some 22), (157, _, some 11)] rfl rfl rfl rfl ⟨⟨rfl, rfl, rfl⟩, ⟨rfl, rfl, rfl⟩, ⟨rfl, rfl, rfl⟩, trivial⟩ (fun ext => TL.on rfl rfl rfl rfl <| TL.callV hF (round_true (r := ⟨1, [(0, 1), (0, 2), (0, 3), (1, 4)], [], [(0, 0)], []⟩) ((hl8.item _ (by simp)).up (by simp)) (y := ⟨⟨1, [(0, 1), (0, 2), (0, 3), (1, 4)], [], [(0, 0)], []⟩, some ⟨b165, 0, none⟩, 4, none, 0, some ⟨b167, 0, none⟩, 1, none, 0⟩) ⟨(row_own (b := b165) (cs := ([(0, 1), (0, 2), (0, 3), (1, 4)] : List Key).flatMap kC) (e := 25) (by simp)), Row.none, (row_own (b := b167) (cs := ([(0, 0)] : List Key).flatMap kC) (e := 25) (by simp)), Row.none⟩ hx8 rfl (by decide)) rfl rfl TL.fin) ?_
   refine DH.pure (i := 24) [(157, _, some 11), (169, _, some 23)] rfl rfl rfl rfl ⟨⟨rfl, rfl, rfl⟩, ⟨rfl, rfl, rfl⟩, trivial⟩ (fun _ ext => TL.pickT hF rfl rfl rfl rfl TL.fin) ?_
   refine DH.pure (i := 25) [(170, _, some 24)] rfl rfl rfl rfl ⟨⟨rfl, rfl, rfl⟩, trivial⟩ (fun _ ext => TL.move hF rfl rfl TL.fin) ?_
   refine DH.pure (i := 26) [(8, _, none), (171, _, some 25)] rfl rfl rfl rfl ⟨⟨rfl, by kernel_rfl⟩, ⟨rfl, rfl, rfl⟩, trivial⟩ (fun _ ext => TL.on rfl rfl rfl rfl <| TL.move hF rfl rfl TL.fin) ?_
   refine DH.pure (i := 27) [(172, _, some 26), (171, _, some 25)] rfl rfl rfl rfl ⟨⟨rfl, rfl, rfl⟩, ⟨rfl, rfl, rfl⟩, trivial⟩ (fun _ ext => TL.on rfl rfl rfl rfl <| TL.indexAddr hF rfl rfl (hl8.ad (i := 1) (show 1 < 2 by decide)) (by decide) (show (1 : Int) < ((2 : Nat) : Int) by decide) rfl TL.fin) ?_
   refine DH.pure (i := 28) [(173, _, some 27), (171, _, some 25)] rfl rfl rfl rfl ⟨⟨rfl, rfl, rfl⟩, ⟨rfl, rfl, rfl⟩, trivial⟩ (fun _ ext => TL.on rfl rfl rfl rfl <| TL.fieldAddr hF rfl rfl TL.fin) ?_
   refine DH.read (i := 29) [(174, _, some 28), (171, _, some 25)] rfl rfl rfl rfl ⟨⟨rfl, rfl, rfl⟩, ⟨rfl, rfl, rfl⟩, trivial⟩ (fun ext => TL.on rfl rfl rfl rfl <| TL.load hF rfl (show At _ _ _ _ (.int .i64 1) from (hl8.ro.atA (i := 1) (show 1 < 2 by decide) 0 _ (by rw [show ([x8, y8] : List RH)[1] = y8 from rfl]; unfold rhC; rw [hy8]; rfl))) rfl TL.fin) ?_
   refine DH.pure (i := 30) [(175, _, some 29), (171, _, some 25)] rfl rfl rfl rfl ⟨⟨rfl, rfl, rfl⟩, ⟨rfl, rfl, rfl⟩, trivial⟩ (fun _ ext => TL.on rfl rfl rfl rfl <| TL.bin hF rfl rfl rfl rfl TL.fin) ?_
   refine DH.pure (i := 31) [(171, _, some 25), (176, _, some 30)] rfl rfl rfl rfl ⟨⟨rfl, rfl, rfl⟩, ⟨rfl, rfl, rfl⟩, trivial⟩ (fun _ ext => TL.pickT hF rfl rfl rfl rfl TL.fin) ?_
   refine DH.pure (i := 32) [(177, _, some 31)] rfl rfl rfl rfl ⟨⟨rfl, rfl, rfl⟩, trivial⟩ (fun _ ext => TL.move hF rfl rfl TL.fin) ?_
   refine DH.pure (i := 33) [(8, _, none), (178, _, some 32)] rfl rfl rfl rfl ⟨⟨rfl, by kernel_rfl⟩, ⟨rfl, rfl, rfl⟩, trivial⟩ (fun _ ext => TL.on rfl rfl rfl rfl <| TL.move hF rfl rfl TL.fin) ?_
   refine DH.pure (i := 34) [(179, _, some 33), (178, _, some 32)] rfl rfl rfl rfl ⟨⟨rfl, rfl, rfl⟩, ⟨rfl, rfl, rfl⟩, trivial⟩ (fun _ ext => TL.on rfl rfl rfl rfl <| TL.indexAddr hF rfl rfl (hl8.ad (i := 1) (show 1 < 2 by decide)) (by decide) (show (1 : Int) < ((2 : Nat) : Int) by decide) rfl TL.fin) ?_
   refine DH.pure (i := 35) [(180, _, some 34), (178, _, some 32)] rfl rfl rfl rfl ⟨⟨rfl, rfl, rfl⟩, ⟨rfl, rfl, rfl⟩, trivial⟩ (fun _ ext => TL.on rfl rfl rfl rfl <| TL.fieldAddr hF rfl rfl TL.fin) ?_
   refine DH.read (i := 36) [(181, _, some 35), (178, _, some 32)] rfl rfl rfl rfl ⟨⟨rfl, rfl, rfl⟩, ⟨rfl, rfl, rfl⟩, trivial⟩ (fun ext => TL.on rfl rfl rfl rfl <| TL.load hF rfl (show At _ _ _ _ (.slice y8.a1 0 y8.c1) from (hl8.ro.atA (i := 1) (show 1 < 2 by decide) 1 _ (by rw [show ([x8, y8] : List RH)[1] = y8 from rfl]; unfold rhC; rw [hy8]; rfl))) rfl TL.fin) ?_
   refine DH.pure (i := 37) [(182, _, some 36), (178, _, some 32)] rfl rfl rfl rfl ⟨⟨rfl, rfl, rfl⟩, ⟨rfl, rfl, rfl⟩, trivial⟩ (fun _ ext => TL.on rfl rfl rfl rfl <| TL.len hF rfl rfl TL.fin) ?_
   refine DH.pure (i := 38) [(8, _, none), (178, _, some 32)] rfl rfl rfl rfl ⟨⟨rfl, by kernel_rfl⟩, ⟨rfl, rfl, rfl⟩, trivial⟩ (fun _ ext => TL.on rfl rfl rfl rfl <| TL.move hF rfl rfl TL.fin) ?_
   refine DH.pure (i := 39) [(184, _, some 38), (178, _, some 32)] rfl rfl rfl rfl ⟨⟨rfl, rfl, rfl⟩, ⟨rfl, rfl, rfl⟩, trivial⟩ (fun _ ext => TL.on rfl rfl rfl rfl <| TL.indexAddr hF rfl rfl (hl8.ad (i := 1) (show 1 < 2 by decide)) (by decide) (show (1 : Int) < ((2 : Nat) : Int) by decide) rfl TL.fin) ?_
   refine DH.pure (i := 40) [(185, _, some 39), (178, _, some 32)] rfl rfl rfl rfl ⟨⟨rfl, rfl, rfl⟩, ⟨rfl, rfl, rfl⟩, trivial⟩ (fun _ ext => TL.on rfl rfl rfl rfl <| TL.fieldAddr hF rfl rfl TL.fin) ?_
   refine DH.read (i := 41) [(186, _, some 40), (178, _, some 32)] rfl rfl rfl rfl ⟨⟨rfl, rfl, rfl⟩, ⟨rfl, rfl, rfl⟩, trivial⟩ (fun ext => TL.on rfl rfl rfl rfl <| TL.load hF rfl (show At _ _ _ _ (.slice y8.a2 0 y8.c2) from (hl8.ro.atA (i := 1) (show 1 < 2 by decide) 2 _ (by rw [show ([x8, y8] : List RH)[1] = y8 from rfl]; unfold rhC; rw [hy8]; rfl))) rfl TL.fin) ?_
   refine DH.pure (i := 42) [(187, _, some 41), (178, _, some 32)] rfl rfl rfl rfl ⟨⟨rfl, rfl, rfl⟩, ⟨rfl, rfl, rfl⟩, trivial⟩ (fun _ ext => TL.on rfl rfl rfl rfl <| TL.len hF rfl rfl TL.fin) ?_
   refine DH.pure (i := 43) [(183, _, some 37), (188, _, some 42), (178, _, some 32)] rfl rfl rfl rfl ⟨⟨rfl, rfl, rfl⟩, ⟨rfl, rfl, rfl⟩, ⟨rfl, rfl, rfl⟩, trivial⟩ (fun _ ext => TL.on rfl rfl rfl rfl <| TL.add hF rfl rfl (by decide) (by decide) rfl TL.fin) ?_
   refine DH.pure (i := 44) [(8, _, none), (178, _, some 32)] rfl rfl rfl rfl ⟨⟨rfl, by kernel_rfl⟩, ⟨rfl, rfl, rfl⟩, trivial⟩ (fun _ ext => TL.on rfl rfl rfl rfl <| TL.move hF rfl rfl TL.fin) ?_
   refine DH.pure (i := 45) [(190, _, some 44), (178, _, some 32)] rfl rfl rfl rfl ⟨⟨rfl, rfl, rfl⟩, ⟨rfl, rfl, rfl⟩, trivial⟩ (fun _ ext => TL.on rfl rfl rfl rfl <| TL.indexAddr hF rfl rfl (hl8.ad (i := 1) (show 1 < 2 by decide)) (by decide) (show (1 : Int) < ((2 : Nat) : Int) by decide) rfl TL.fin) ?_
   refine DH.pure (i := 46) [(191, _, some 45), (178, _, some 32)] rfl rfl rfl rfl ⟨⟨rfl, rfl, rfl⟩, ⟨rfl, rfl, rfl⟩, trivial⟩ (fun _ ext => TL.on rfl rfl rfl rfl <| TL.fieldAddr hF rfl rfl TL.fin) ?_
   refine DH.read (i := 47) [(192, _, some 46), (178, _, some 32)] rfl rfl rfl rfl ⟨⟨rfl, rfl, rfl⟩, ⟨rfl, rfl, rfl⟩, trivial⟩ (fun ext => TL.on rfl rfl rfl rfl <| TL.load hF rfl (show At _ _ _ _ (.slice y8.a4 0 y8.c4) from (hl8.ro.atA (i := 1) (show 1 < 2 by decide) 4 _ (by rw [show ([x8, y8] : List RH)[1] = y8 from rfl]; unfold rhC; rw [hy8]; rfl))) rfl TL.fin) ?_
   refine DH.pure (i := 48) [(193, _, some 47), (178, _, some 32)] rfl rfl rfl rfl ⟨⟨rfl, rfl, rfl⟩, ⟨rfl, rfl, rfl⟩, trivial⟩ (fun _ ext => TL.on rfl rfl rfl rfl <| TL.len hF rfl rfl TL.fin) ?_
   refine DH.pure (i := 49) [(189, _, some 43), (194, _, some 48), (178, _, some 32)] rfl rfl rfl rfl ⟨⟨rfl, rfl, rfl⟩, ⟨rfl, rfl, rfl⟩, ⟨rfl, rfl, rfl⟩, trivial⟩ (fun _ ext => TL.on rfl rfl rfl rfl <| TL.add hF rfl rfl (by decide) (by decide) rfl TL.fin) ?_
   refine DH.pure (i := 50) [(195, _, some 49), (178, _, some 32)] rfl rfl rfl rfl ⟨⟨rfl, rfl, rfl⟩, ⟨rfl, rfl, rfl⟩, trivial⟩ (fun _ ext => TL.on rfl rfl rfl rfl <| TL.bin hF rfl rfl rfl rfl TL.fin) ?_
   refine DH.pure (i := 51) [(178, _, some 32), (196, _, some 50)] rfl rfl rfl rfl ⟨⟨rfl, rfl, rfl⟩, ⟨rfl, rfl, rfl⟩, trivial⟩ (fun _ ext => TL.pickT hF rfl rfl rfl rfl TL.fin) ?_
   refine DH.pure (i := 52) [(197, _, some 51)] rfl rfl rfl rfl ⟨⟨rfl, rfl, rfl⟩, trivial⟩ (fun _ ext => TL.move hF rfl rfl TL.fin) ?_
   refine DH.pure (i := 53) [(10, _, none), (198, _, some 52)] rfl rfl rfl rfl ⟨⟨rfl, by kernel_rfl⟩, ⟨rfl, rfl, rfl⟩, trivial⟩ (fun _ ext => TL.on rfl rfl rfl rfl <| TL.move hF rfl rfl TL.fin) ?_
   refine DH.pure (i := 54) [(199, _, some 53), (198, _, some 52)] rfl rfl rfl rfl ⟨⟨rfl, rfl, rfl⟩, ⟨rfl, rfl, rfl⟩, trivial⟩ (fun _ ext => TL.on rfl rfl rfl rfl <| TL.indexAddr hF rfl rfl (hl10.ad (i := 0) (show 0 < 1 by decide)) (by decide) (show (0 : Int) < ((1 : Nat) : Int) by decide) rfl TL.fin) ?_
   refine DH.read (i := 55) [(200, _, some 54), (198, _, some 52)] rfl rfl rfl rfl ⟨⟨rfl, rfl, rfl⟩, ⟨rfl, rfl, rfl⟩, trivial⟩ (fun ext => TL.on rfl rfl rfl rfl <| TL.loadA hF (rhC x10) rfl rfl (hl10.ro.atA (i := 0) (show 0 < 1 by decide)) rfl TL.fin) ?_
   refine DH.pure (i := 56) [(198, _, some 52)] rfl rfl rfl rfl ⟨⟨rfl, rfl, rfl⟩, trivial⟩ (fun _ ext => TL.on rfl rfl rfl rfl <| TL.callV hF (at_fn 0 1) rfl rfl TL.fin) ?_
   refine DH.pure (i := 57) [(198, _, some 52)] rfl rfl rfl rfl ⟨⟨rfl, rfl, rfl⟩, trivial⟩ (fun _ ext => TL.on rfl rfl rfl rfl <| TL.callV hF (at_fn 0 2) rfl rfl TL.fin) ?_
   refine DH.pure (i := 59) [(198, _, some 52)] rfl rfl rfl rfl ⟨⟨rfl, rfl, rfl⟩, trivial⟩ (fun _ ext => TL.on rfl rfl rfl rfl <| TL.callV hF (at_fn 0 0) rfl rfl TL.fin) ?_
   refine DH.pure (i := 60) [(198, _, some 52)] rfl rfl rfl rfl ⟨⟨rfl, rfl, rfl⟩, trivial⟩ (fun _ ext => TL.on rfl rfl rfl rfl <| TL.callV hF (at_fn 0 3) rfl rfl TL.fin) ?_
   refine DH.pure (i := 61) [(198, _, some 52)] rfl rfl rfl rfl ⟨⟨rfl, rfl, rfl⟩, trivial⟩ (fun _ ext => TL.on rfl rfl rfl rfl <| TL.callV hF (at_fn 1 4) rfl rfl TL.fin) ?_
   refine DH.k2 (by kernel_rfl) (by kernel_rfl) (by kernel_rfl) (by kernel_rfl) (HBK.mk (h := 58) [55] [(202, _, some 56), (203, _, some 57), (198, _, some 52)] rfl rfl rfl ⟨⟨rfl, rfl, rfl⟩, ⟨rfl, rfl, rfl⟩, ⟨rfl, rfl, rfl⟩, trivial⟩ (by kernel_rfl) (fun ext => ?_)) (HBK.mk (h := 62) [55] [(205, _, some 59), (206, _, some 60), (207, _, some 61), (198, _, some 52)] rfl rfl rfl ⟨⟨rfl, rfl, rfl⟩, ⟨rfl, rfl, rfl⟩, ⟨rfl, rfl, rfl⟩, ⟨rfl, rfl, rfl⟩, trivial⟩ (by kernel_rfl) (fun ext => ?_))
   ·refine TL.on rfl rfl rfl rfl ?_
    refine TL.buildSlice hF rfl (cs := (([(0, 1), (0, 2)] : List Key).flatMap kC).toArray) (e := 25) (fun w => by kernel_rfl) rfl (fun b204 => ?_)
    refine TL.finK ⟨⟨_, rfl, _, _, [(200, _, some 54), (198, _, some 52)], rfl, rfl, ⟨⟨rfl, rfl, rfl⟩, ⟨rfl, rfl, rfl⟩, trivial⟩, fun ext => TL.on rfl rfl rfl rfl <| TL.loadA hF (rhC x10) rfl rfl (hl10.ro.atA (i := 0) (show 0 < 1 by decide)) rfl TL.fin⟩, trivial⟩ ?_
    refine DH.k1 (by kernel_rfl) (by kernel_rfl) (by kernel_rfl) (by kernel_rfl) (HBK.mk (h := 62) [55] [(205, _, some 59), (206, _, some 60), (207, _, some 61), (198, _, some 52)] rfl rfl rfl ⟨⟨rfl, rfl, rfl⟩, ⟨rfl, rfl, rfl⟩, ⟨rfl, rfl, rfl⟩, ⟨rfl, rfl, rfl⟩, trivial⟩ (by kernel_rfl) (fun ext => ?_))
    refine TL.on rfl rfl rfl rfl ?_
    refine TL.buildSlice hF rfl (cs := (([(0, 0), (0, 3), (1, 4)] : List Key).flatMap kC).toArray) (e := 25) (fun w => by kernel_rfl) rfl (fun b208 => ?_)
    refine TL.finK ⟨⟨_, rfl, _, _, [(200, _, some 54), (198, _, some 52)], rfl, rfl, ⟨⟨rfl, rfl, rfl⟩, ⟨rfl, rfl, rfl⟩, trivial⟩, fun ext => TL.on rfl rfl rfl rfl <| TL.loadA hF (rhC x10) rfl rfl (hl10.ro.atA (i := 0) (show 0 < 1 by decide)) rfl TL.fin⟩, trivial⟩ ?_
    refine DH.pure (i := 63) [(204, _, some 58), (208, _, some 62), (198, _, some 52)] rfl rfl rfl rfl ⟨⟨rfl, rfl, rfl⟩, ⟨rfl, rfl, rfl⟩, ⟨rfl, rfl, rfl⟩, trivial⟩ (fun _ ext => TL.on rfl rfl rfl rfl <| TL.build hF rfl (r := .agg (rhC ⟨⟨1, [(0, 1), (0, 2)], [], [(0, 0), (0, 3), (1, 4)], []⟩, some ⟨b204, 0, none⟩, 2, none, 0, some ⟨b208, 0, none⟩, 3, none, 0⟩).toArray) (fun w => by kernel_rfl) rfl TL.fin) ?_
    refine DH.done [(209, _), (208, _), (204, _), (207, _), (206, _), (205, _), (203, _), (202, _), (201, _), (200, _), (199, _), (198, _), (197, _), (196, _), (195, _), (194, _), (193, _), (192, _), (191, _), (190, _), (189, _), (188, _), (187, _), (186, _), (185, _), (184, _), (183, _), (182, _), (181, _), (180, _), (179, _), (178, _), (177, _), (176, _), (175, _), (174, _), (173, _), (172, _), (171, _), (170, _), (169, _), (168, _), (167, _), (165, _), (166, _), (164, _), (163, _), (162, _), (161, _), (160, _), (159, _), (158, _), (157, _), (156, _), (155, _), (151, _), (154, _), (153, _), (152, _), (150, _), (149, _), (148, _), (147, _), (146, _)] [_, _, _] (by kernel_rfl) (by kernel_rfl) (by kernel_rfl) (by kernel_rfl) rfl rfl ?_
    refine TL.on rfl rfl rfl rfl ?_
    refine TL.callV hF (round_true (r := ⟨1, [(0, 1), (0, 2)], [], [(0, 0), (0, 3), (1, 4)], []⟩) ((hl10.item _ (by simp)).up (by simp)) (y := ⟨⟨1, [(0, 1), (0, 2)], [], [(0, 0), (0, 3), (1, 4)], []⟩, some ⟨b204, 0, none⟩, 2, none, 0, some ⟨b208, 0, none⟩, 3, none, 0⟩) ⟨(row_own (b := b204) (cs := ([(0, 1), (0, 2)] : List Key).flatMap kC) (e := 25) (by simp)), Row.none, (row_own (b := b208) (cs := ([(0, 0), (0, 3), (1, 4)] : List Key).flatMap kC) (e := 25) (by simp)), Row.none⟩ hx10 rfl (by decide)) rfl rfl ?_
    refine TL.pickT hF rfl rfl rfl rfl ?_
    refine TL.assign hF rfl rfl ?_
    refine TL.nil ?_
    refine TQ.then_n ?_
    refine T.ret ?_
    exact TQ.retsF [0] _ hb rfl rfl rfl (fun _ => rfl)
   ·refine TL.on rfl rfl rfl rfl ?_
    refine TL.buildSlice hF rfl (cs := (([(0, 0), (0, 3), (1, 4)] : List Key).flatMap kC).toArray) (e := 25) (fun w => by kernel_rfl) rfl (fun b208 => ?_)
    refine TL.finK ⟨⟨_, rfl, _, _, [(200, _, some 54), (198, _, some 52)], rfl, rfl, ⟨⟨rfl, rfl, rfl⟩, ⟨rfl, rfl, rfl⟩, trivial⟩, fun ext => TL.on rfl rfl rfl rfl <| TL.loadA hF (rhC x10) rfl rfl (hl10.ro.atA (i := 0) (show 0 < 1 by decide)) rfl TL.fin⟩, trivial⟩ ?_
    refine DH.k1 (by kernel_rfl) (by kernel_rfl) (by kernel_rfl) (by kernel_rfl) (HBK.mk (h := 58) [55] [(202, _, some 56), (203, _, some 57), (198, _, some 52)] rfl rfl rfl ⟨⟨rfl, rfl, rfl⟩, ⟨rfl, rfl, rfl⟩, ⟨rfl, rfl, rfl⟩, trivial⟩ (by kernel_rfl) (fun ext => ?_))
    refine TL.on rfl rfl rfl rfl ?_
    refine TL.buildSlice hF rfl (cs := (([(0, 1), (0, 2)] : List Key).flatMap kC).toArray) (e := 25) (fun w => by kernel_rfl) rfl (fun b204 => ?_)
    refine TL.finK ⟨⟨_, rfl, _, _, [(200, _, some 54), (198, _, some 52)], rfl, rfl, ⟨⟨rfl, rfl, rfl⟩, ⟨rfl, rfl, rfl⟩, trivial⟩, fun ext => TL.on rfl rfl rfl rfl <| TL.loadA hF (rhC x10) rfl rfl (hl10.ro.atA (i := 0) (show 0 < 1 by decide)) rfl TL.fin⟩, trivial⟩ ?_
    refine DH.pure (i := 63) [(204, _, some 58), (208, _, some 62), (198, _, some 52)] rfl rfl rfl rfl ⟨⟨rfl, rfl, rfl⟩, ⟨rfl, rfl, rfl⟩, ⟨rfl, rfl, rfl⟩, trivial⟩ (fun _ ext => TL.on rfl rfl rfl rfl <| TL.build hF rfl (r := .agg (rhC ⟨⟨1, [(0, 1), (0, 2)], [], [(0, 0), (0, 3), (1, 4)], []⟩, some ⟨b204, 0, none⟩, 2, none, 0, some ⟨b208, 0, none⟩, 3, none, 0⟩).toArray) (fun w => by kernel_rfl) rfl TL.fin) ?_
    refine DH.done [(209, _), (204, _), (208, _), (207, _), (206, _), (205, _), (203, _), (202, _), (201, _), (200, _), (199, _), (198, _), (197, _), (196, _), (195, _), (194, _), (193, _), (192, _), (191, _), (190, _), (189, _), (188, _), (187, _), (186, _), (185, _), (184, _), (183, _), (182, _), (181, _), (180, _), (179, _), (178, _), (177, _), (176, _), (175, _), (174, _), (173, _), (172, _), (171, _), (170, _), (169, _), (168, _), (167, _), (165, _), (166, _), (164, _), (163, _), (162, _), (161, _), (160, _), (159, _), (158, _), (157, _), (156, _), (155, _), (151, _), (154, _), (153, _), (152, _), (150, _), (149, _), (148, _), (147, _), (146, _)] [_, _, _] (by kernel_rfl) (by kernel_rfl) (by kernel_rfl) (by kernel_rfl) rfl rfl ?_
    refine TL.on rfl rfl rfl rfl ?_
    refine TL.callV hF (round_true (r := ⟨1, [(0, 1), (0, 2)], [], [(0, 0), (0, 3), (1, 4)], []⟩) ((hl10.item _ (by simp)).up (by simp)) (y := ⟨⟨1, [(0, 1), (0, 2)], [], [(0, 0), (0, 3), (1, 4)], []⟩, some ⟨b204, 0, none⟩, 2, none, 0, some ⟨b208, 0, none⟩, 3, none, 0⟩) ⟨(row_own (b := b204) (cs := ([(0, 1), (0, 2)] : List Key).flatMap kC) (e := 25) (by simp)), Row.none, (row_own (b := b208) (cs := ([(0, 0), (0, 3), (1, 4)] : List Key).flatMap kC) (e := 25) (by simp)), Row.none⟩ hx10 rfl (by decide)) rfl rfl ?_
    refine TL.pickT hF rfl rfl rfl rfl ?_
    refine TL.assign hF rfl rfl ?_
    refine TL.nil ?_
    refine TQ.then_n ?_
    refine T.ret ?_
    exact TQ.retsF [0] _ hb rfl rfl rfl (fun _ => rfl)
  ·refine TL.on rfl rfl rfl rfl ?_
   refine TL.buildSlice hF rfl (cs := (([(0, 0)] : List Key).flatMap kC).toArray) (e := 25) (fun w => by kernel_rfl) rfl (fun b167 => ?_)
   refine TL.finK ⟨⟨_, rfl, _, _, [(159, _, some 13), (157, _, some 11)], rfl, rfl, ⟨⟨rfl, rfl, rfl⟩, ⟨rfl, rfl, rfl⟩, trivial⟩, fun ext => TL.on rfl rfl rfl rfl <| TL.loadA hF (rhC x8) rfl rfl (hl8.ro.atA (i := 0) (show 0 < 2 by decide)) rfl TL.fin⟩, trivial⟩ ?_
   refine DH.k1 (by kernel_rfl) (by kernel_rfl) (by kernel_rfl) (by kernel_rfl) (HBK.mk (h := 19) [14] [(161, _, some 15), (162, _, some 16), (163, _, some 17), (164, _, some 18), (157, _, some 11)] rfl rfl rfl ⟨⟨rfl, rfl, rfl⟩, ⟨rfl, rfl, rfl⟩, ⟨rfl, rfl, rfl⟩, ⟨rfl, rfl, rfl⟩, ⟨rfl, rfl, rfl⟩, trivial⟩ (by kernel_rfl) (fun ext => ?_))
   refine TL.on rfl rfl rfl rfl ?_
   refine TL.buildSlice hF rfl (cs := (([(0, 1), (0, 2), (0, 3), (1, 4)] : List Key).flatMap kC).toArray) (e := 25) (fun w => by kernel_rfl) rfl (fun b165 => ?_)
   refine TL.finK ⟨⟨_, rfl, _, _, [(159, _, some 13), (157, _, some 11)], rfl, rfl, ⟨⟨rfl, rfl, rfl⟩, ⟨rfl, rfl, rfl⟩, trivial⟩, fun ext => TL.on rfl rfl rfl rfl <| TL.loadA hF (rhC x8) rfl rfl (hl8.ro.atA (i := 0) (show 0 < 2 by decide)) rfl TL.fin⟩, trivial⟩ ?_
   refine DH.pure (i := 22) [(165, _, some 19), (167, _, some 21), (157, _, some 11)] rfl rfl rfl rfl ⟨⟨rfl, rfl, rfl⟩, ⟨rfl, rfl, rfl⟩, ⟨rfl, rfl, rfl⟩, trivial⟩ (fun _ ext => TL.on rfl rfl rfl rfl <| TL.build hF rfl (r := .agg (rhC ⟨⟨1, [(0, 1), (0, 2), (0, 3), (1, 4)], [], [(0, 0)], []⟩, some ⟨b165, 0, none⟩, 4, none, 0, some ⟨b167, 0, none⟩, 1, none, 0⟩).toArray) (fun w => by kernel_rfl) rfl TL.fin) ?_
   refine DH.read (i := 23) [(160, _, some 14), (168, _, some 22), (157, _, some 11)] rfl rfl rfl rfl ⟨⟨rfl, rfl, rfl⟩, ⟨rfl, rfl, rfl⟩, ⟨rfl, rfl, rfl⟩, trivial⟩ (fun ext => TL.on rfl rfl rfl rfl <| TL.callV hF (round_true (r := ⟨1, [(0, 1), (0, 2), (0, 3), (1, 4)], [], [(0, 0)], []⟩) ((hl8.item _ (by simp)).up (by simp)) (y := ⟨⟨1, [(0, 1), (0, 2), (0, 3), (1, 4)], [], [(0, 0)], []⟩, some ⟨b165, 0, none⟩, 4, none, 0, some ⟨b167, 0, none⟩, 1, none, 0⟩) ⟨(row_own (b := b165) (cs := ([(0, 1), (0, 2), (0, 3), (1, 4)] : List Key).flatMap kC) (e := 25) (by simp)), Row.none, (row_own (b := b167) (cs := ([(0, 0)] : List Key).flatMap kC) (e := 25) (by simp)), Row.none⟩ hx8 rfl (by decide)) rfl rfl TL.fin) ?_
   refine DH.pure (i := 24) [(157, _, some 11), (169, _, some 23)] rfl rfl rfl rfl ⟨⟨rfl, rfl, rfl⟩, ⟨rfl, rfl, rfl⟩, trivial⟩ (fun _ ext => TL.pickT hF rfl rfl rfl rfl TL.fin) ?_
   refine DH.pure (i := 25) [(170, _, some 24)] rfl rfl rfl rfl ⟨⟨rfl, rfl, rfl⟩, trivial⟩ (fun _ ext => TL.move hF rfl rfl TL.fin) ?_
   refine DH.pure (i := 26) [(8, _, none), (171, _, some 25)] rfl rfl rfl rfl ⟨⟨rfl, by kernel_rfl⟩, ⟨rfl, rfl, rfl⟩, trivial⟩ (fun _ ext => TL.on rfl rfl rfl rfl <| TL.move hF rfl rfl TL.fin) ?_
   refine DH.pure (i := 27) [(172, _, some 26), (171, _, some 25)] rfl rfl rfl rfl ⟨⟨rfl, rfl, rfl⟩, ⟨rfl, rfl, rfl⟩, trivial⟩ (fun _ ext => TL.on rfl rfl rfl rfl <| TL.indexAddr hF rfl rfl (hl8.ad (i := 1) (show 1 < 2 by decide)) (by decide) (show (1 : Int) < ((2 : Nat) : Int) by decide) rfl TL.fin) ?_
   refine DH.pure (i := 28) [(173, _, some 27), (171, _, some 25)] rfl rfl rfl rfl ⟨⟨rfl, rfl, rfl⟩, ⟨rfl, rfl, rfl⟩, trivial⟩ (fun _ ext => TL.on rfl rfl rfl rfl <| TL.fieldAddr hF rfl rfl TL.fin) ?_
   refine DH.read (i := 29) [(174, _, some 28), (171, _, some 25)] rfl rfl rfl rfl ⟨⟨rfl, rfl, rfl⟩, ⟨rfl, rfl, rfl⟩, trivial⟩ (fun ext => TL.on rfl rfl rfl rfl <| TL.load hF rfl (show At _ _ _ _ (.int .i64 1) from (hl8.ro.atA (i := 1) (show 1 < 2 by decide) 0 _ (by rw [show ([x8, y8] : List RH)[1] = y8 from rfl]; unfold rhC; rw [hy8]; rfl))) rfl TL.fin) ?_
   refine DH.pure (i := 30) [(175, _, some 29), (171, _, some 25)] rfl rfl rfl rfl ⟨⟨rfl, rfl, rfl⟩, ⟨rfl, rfl, rfl⟩, trivial⟩ (fun _ ext => TL.on rfl rfl rfl rfl <| TL.bin hF rfl rfl rfl rfl TL.fin) ?_
   refine DH.pure (i := 31) [(171, _, some 25), (176, _, some 30)] rfl rfl rfl rfl ⟨⟨rfl, rfl, rfl⟩, ⟨rfl, rfl, rfl⟩, trivial⟩ (fun _ ext => TL.pickT hF rfl rfl rfl rfl TL.fin) ?_
   refine DH.pure (i := 32) [(177, _, some 31)] rfl rfl rfl rfl ⟨⟨rfl, rfl, rfl⟩, trivial⟩ (fun _ ext => TL.move hF rfl rfl TL.fin) ?_
   refine DH.pure (i := 33) [(8, _, none), (178, _, some 32)] rfl rfl rfl rfl ⟨⟨rfl, by kernel_rfl⟩, ⟨rfl, rfl, rfl⟩, trivial⟩ (fun _ ext => TL.on rfl rfl rfl rfl <| TL.move hF rfl rfl TL.fin) ?_
   refine DH.pure (i := 34) [(179, _, some 33), (178, _, some 32)] rfl rfl rfl rfl ⟨⟨rfl, rfl, rfl⟩, ⟨rfl, rfl, rfl⟩, trivial⟩ (fun _ ext => TL.on rfl rfl rfl rfl <| TL.indexAddr hF rfl rfl (hl8.ad (i := 1) (show 1 < 2 by decide)) (by decide) (show (1 : Int) < ((2 : Nat) : Int) by decide) rfl TL.fin) ?_
   refine DH.pure (i := 35) [(180, _, some 34), (178, _, some 32)] rfl rfl rfl rfl ⟨⟨rfl, rfl, rfl⟩, ⟨rfl, rfl, rfl⟩, trivial⟩ (fun _ ext => TL.on rfl rfl rfl rfl <| TL.fieldAddr hF rfl rfl TL.fin) ?_
   refine DH.read (i := 36) [(181, _, some 35), (178, _, some 32)] rfl rfl rfl rfl ⟨⟨rfl, rfl, rfl⟩, ⟨rfl, rfl, rfl⟩, trivial⟩ (fun ext => TL.on rfl rfl rfl rfl <| TL.load hF rfl (show At _ _ _ _ (.slice y8.a1 0 y8.c1) from (hl8.ro.atA (i := 1) (show 1 < 2 by decide) 1 _ (by rw [show ([x8, y8] : List RH)[1] = y8 from rfl]; unfold rhC; rw [hy8]; rfl))) rfl TL.fin) ?_
   refine DH.pure (i := 37) [(182, _, some 36), (178, _, some 32)] rfl rfl rfl rfl ⟨⟨rfl, rfl, rfl⟩, ⟨rfl, rfl, rfl⟩, trivial⟩ (fun _ ext => TL.on rfl rfl rfl rfl <| TL.len hF rfl rfl TL.fin) ?_
   refine DH.pure (i := 38) [(8, _, none), (178, _, some 32)] rfl rfl rfl rfl ⟨⟨rfl, by kernel_rfl⟩, ⟨rfl, rfl, rfl⟩, trivial⟩ (fun _ ext => TL.on rfl rfl rfl rfl <| TL.move hF rfl rfl TL.fin) ?_
   refine DH.pure (i := 39) [(184, _, some 38), (178, _, some 32)] rfl rfl rfl rfl ⟨⟨rfl, rfl, rfl⟩, ⟨rfl, rfl, rfl⟩, trivial⟩ (fun _ ext => TL.on rfl rfl rfl rfl <| TL.indexAddr hF rfl rfl (hl8.ad (i := 1) (show 1 < 2 by decide)) (by decide) (show (1 : Int) < ((2 : Nat) : Int) by decide) rfl TL.fin) ?_
   refine DH.pure (i := 40) [(185, _, some 39), (178, _, some 32)] rfl rfl rfl rfl ⟨⟨rfl, rfl, rfl⟩, ⟨rfl, rfl, rfl⟩, trivial⟩ (fun _ ext => TL.on rfl rfl rfl rfl <| TL.fieldAddr hF rfl rfl TL.fin) ?_
   refine DH.read (i := 41) [(186, _, some 40), (178, _, some 32)] rfl rfl rfl rfl ⟨⟨rfl, rfl, rfl⟩, ⟨rfl, rfl, rfl⟩, trivial⟩ (fun ext => TL.on rfl rfl rfl rfl <| TL.load hF rfl (show At _ _ _ _ (.slice y8.a2 0 y8.c2) from (hl8.ro.atA (i := 1) (show 1 < 2 by decide) 2 _ (by rw [show ([x8, y8] : List RH)[1] = y8 from rfl]; unfold rhC; rw [hy8]; rfl))) rfl TL.fin) ?_
   refine DH.pure (i := 42) [(187, _, some 41), (178, _, some 32)] rfl rfl rfl rfl ⟨⟨rfl, rfl, rfl⟩, ⟨rfl, rfl, rfl⟩, trivial⟩ (fun _ ext => TL.on rfl rfl rfl rfl <| TL.len hF rfl rfl TL.fin) ?_
   refine DH.pure (i := 43) [(183, _, some 37), (188, _, some 42), (178, _, some 32)] rfl rfl rfl rfl ⟨⟨rfl, rfl, rfl⟩, ⟨rfl, rfl, rfl⟩, ⟨rfl, rfl, rfl⟩, trivial⟩ (fun _ ext => TL.on rfl rfl rfl rfl <| TL.add hF rfl rfl (by decide) (by decide) rfl TL.fin) ?_
   refine DH.pure (i := 44) [(8, _, none), (178, _, some 32)] rfl rfl rfl rfl ⟨⟨rfl, by kernel_rfl⟩, ⟨rfl, rfl, rfl⟩, trivial⟩ (fun _ ext => TL.on rfl rfl rfl rfl <| TL.move hF rfl rfl TL.fin) ?_
   refine DH.pure (i := 45) [(190, _, some 44), (178, _, some 32)] rfl rfl rfl rfl ⟨⟨rfl, rfl, rfl⟩, ⟨rfl, rfl, rfl⟩, trivial⟩ (fun _ ext => TL.on rfl rfl rfl rfl <| TL.indexAddr hF rfl rfl (hl8.ad (i := 1) (show 1 < 2 by decide)) (by decide) (show (1 : Int) < ((2 : Nat) : Int) by decide) rfl TL.fin) ?_
   refine DH.pure (i := 46) [(191, _, some 45), (178, _, some 32)] rfl rfl rfl rfl ⟨⟨rfl, rfl, rfl⟩, ⟨rfl, rfl, rfl⟩, trivial⟩ (fun _ ext => TL.on rfl rfl rfl rfl <| TL.fieldAddr hF rfl rfl TL.fin) ?_
   refine DH.read (i := 47) [(192, _, some 46), (178, _, some 32)] rfl rfl rfl rfl ⟨⟨rfl, rfl, rfl⟩, ⟨rfl, rfl, rfl⟩, trivial⟩ (fun ext => TL.on rfl rfl rfl rfl <| TL.load hF rfl (show At _ _ _ _ (.slice y8.a4 0 y8.c4) from (hl8.ro.atA (i := 1) (show 1 < 2 by decide) 4 _ (by rw [show ([x8, y8] : List RH)[1] = y8 from rfl]; unfold rhC; rw [hy8]; rfl))) rfl TL.fin) ?_
   refine DH.pure (i := 48) [(193, _, some 47), (178, _, some 32)] rfl rfl rfl rfl ⟨⟨rfl, rfl, rfl⟩, ⟨rfl, rfl, rfl⟩, trivial⟩ (fun _ ext => TL.on rfl rfl rfl rfl <| TL.len hF rfl rfl TL.fin) ?_
   refine DH.pure (i := 49) [(189, _, some 43), (194, _, some 48), (178, _, some 32)] rfl rfl rfl rfl ⟨⟨rfl, rfl, rfl⟩, ⟨rfl, rfl, rfl⟩, ⟨rfl, rfl, rfl⟩, trivial⟩ (fun _ ext => TL.on rfl rfl rfl rfl <| TL.add hF rfl rfl (by decide) (by decide) rfl TL.fin) ?_
   refine DH.pure (i := 50) [(195, _, some 49), (178, _, some 32)] rfl rfl rfl rfl ⟨⟨rfl, rfl, rfl⟩, ⟨rfl, rfl, rfl⟩, trivial⟩ (fun _ ext => TL.on rfl rfl rfl rfl <| TL.bin hF rfl rfl rfl rfl TL.fin) ?_
   refine DH.pure (i := 51) [(178, _, some 32), (196, _, some 50)] rfl rfl rfl rfl ⟨⟨rfl, rfl, rfl⟩, ⟨rfl, rfl, rfl⟩, trivial⟩ (fun _ ext => TL.pickT hF rfl rfl rfl rfl TL.fin) ?_
   refine DH.pure (i := 52) [(197, _, some 51)] rfl rfl rfl rfl ⟨⟨rfl, rfl, rfl⟩, trivial⟩ (fun _ ext => TL.move hF rfl rfl TL.fin) ?_
   refine DH.pure (i := 53) [(10, _, none), (198, _, some 52)] rfl rfl rfl rfl ⟨⟨rfl, by kernel_rfl⟩, ⟨rfl, rfl, rfl⟩, trivial⟩ (fun _ ext => TL.on rfl rfl rfl rfl <| TL.move hF rfl rfl TL.fin) ?_
   refine DH.pure (i := 54) [(199, _, some 53), (198, _, some 52)] rfl rfl rfl rfl ⟨⟨rfl, rfl, rfl⟩, ⟨rfl, rfl, rfl⟩, trivial⟩ (fun _ ext => TL.on rfl rfl rfl rfl <| TL.indexAddr hF rfl rfl (hl10.ad (i := 0) (show 0 < 1 by decide)) (by decide) (show (0 : Int) < ((1 : Nat) : Int) by decide) rfl TL.fin) ?_
   refine DH.read (i := 55) [(200, _, some 54), (198, _, some 52)] rfl rfl rfl rfl ⟨⟨rfl, rfl, rfl⟩, ⟨rfl, rfl, rfl⟩, trivial⟩ (fun ext => TL.on rfl rfl rfl rfl <| TL.loadA hF (rhC x10) rfl rfl (hl10.ro.atA (i := 0) (show 0 < 1 by decide)) rfl TL.fin) ?_
   refine DH.pure (i := 56) [(198, _, some 52)] rfl rfl rfl rfl ⟨⟨rfl, rfl, rfl⟩, trivial⟩ (fun _ ext => TL.on rfl rfl rfl rfl <| TL.callV hF (at_fn 0 1) rfl rfl TL.fin) ?_
   refine DH.pure (i := 57) [(198, _, some 52)] rfl rfl rfl rfl ⟨⟨rfl, rfl, rfl⟩, trivial⟩ (fun _ ext => TL.on rfl rfl rfl rfl <| TL.callV hF (at_fn 0 2) rfl rfl TL.fin) ?_
   refine DH.pure (i := 59) [(198, _, some 52)] rfl rfl rfl rfl ⟨⟨rfl, rfl, rfl⟩, trivial⟩ (fun _ ext => TL.on rfl rfl rfl rfl <| TL.callV hF (at_fn 0 0) rfl rfl TL.fin) ?_
   refine DH.pure (i := 60) [(198, _, some 52)] rfl rfl rfl rfl ⟨⟨rfl, rfl, rfl⟩, trivial⟩ (fun _ ext => TL.on rfl rfl rfl rfl <| TL.callV hF (at_fn 0 3) rfl rfl TL.fin) ?_
   refine DH.pure (i := 61) [(198, _, some 52)] rfl rfl rfl rfl ⟨⟨rfl, rfl, rfl⟩, trivial⟩ (fun _ ext => TL.on rfl rfl rfl rfl <| TL.callV hF (at_fn 1 4) rfl rfl TL.fin) ?_
   refine DH.k2 (by kernel_rfl) (by kernel_rfl) (by kernel_rfl) (by kernel_rfl) (HBK.mk (h := 58) [55] [(202, _, some 56), (203, _, some 57), (198, _, some 52)] rfl rfl rfl ⟨⟨rfl, rfl, rfl⟩, ⟨rfl, rfl, rfl⟩, ⟨rfl, rfl, rfl⟩, trivial⟩ (by kernel_rfl) (fun ext => ?_)) (HBK.mk (h := 62) [55] [(205, _, some 59), (206, _, some 60), (207, _, some 61), (198, _, some 52)] rfl rfl rfl ⟨⟨rfl, rfl, rfl⟩, ⟨rfl, rfl, rfl⟩, ⟨rfl, rfl, rfl⟩, ⟨rfl, rfl, rfl⟩, trivial⟩ (by kernel_rfl) (fun ext => ?_))
   ·refine TL.on rfl rfl rfl rfl ?_
    refine TL.buildSlice hF rfl (cs := (([(0, 1), (0, 2)] : List Key).flatMap kC).toArray) (e := 25) (fun w => by kernel_rfl) rfl (fun b204 => ?_)
    refine TL.finK ⟨⟨_, rfl, _, _, [(200, _, some 54), (198, _, some 52)], rfl, rfl, ⟨⟨rfl, rfl, rfl⟩, ⟨rfl, rfl, rfl⟩, trivial⟩, fun ext => TL.on rfl rfl rfl rfl <| TL.loadA hF (rhC x10) rfl rfl (hl10.ro.atA (i := 0) (show 0 < 1 by decide)) rfl TL.fin⟩, trivial⟩ ?_
    refine DH.k1 (by kernel_rfl) (by kernel_rfl) (by kernel_rfl) (by kernel_rfl) (HBK.mk (h := 62) [55] [(205, _, some 59), (206, _, some 60), (207, _, some 61), (198, _, some 52)] rfl rfl rfl ⟨⟨rfl, rfl, rfl⟩, ⟨rfl, rfl, rfl⟩, ⟨rfl, rfl, rfl⟩, ⟨rfl, rfl, rfl⟩, trivial⟩ (by kernel_rfl) (fun ext => ?_))
    refine TL.on rfl rfl rfl rfl ?_
    refine TL.buildSlice hF rfl (cs := (([(0, 0), (0, 3), (1, 4)] : List Key).flatMap kC).toArray) (e := 25) (fun w => by kernel_rfl) rfl (fun b208 => ?_)
    refine TL.finK ⟨⟨_, rfl, _, _, [(200, _, some 54), (198, _, some 52)], rfl, rfl, ⟨⟨rfl, rfl, rfl⟩, ⟨rfl, rfl, rfl⟩, trivial⟩, fun ext => TL.on rfl rfl rfl rfl <| TL.loadA hF (rhC x10) rfl rfl (hl10.ro.atA (i := 0) (show 0 < 1 by decide)) rfl TL.fin⟩, trivial⟩ ?_
    refine DH.pure (i := 63) [(204, _, some 58), (208, _, some 62), (198, _, some 52)] rfl rfl rfl rfl ⟨⟨rfl, rfl, rfl⟩, ⟨rfl, rfl, rfl⟩, ⟨rfl, rfl, rfl⟩, trivial⟩ (fun _ ext => TL.on rfl rfl rfl rfl <| TL.build hF rfl (r := .agg (rhC ⟨⟨1, [(0, 1), (0, 2)], [], [(0, 0), (0, 3), (1, 4)], []⟩, some ⟨b204, 0, none⟩, 2, none, 0, some ⟨b208, 0, none⟩, 3, none, 0⟩).toArray) (fun w => by kernel_rfl) rfl TL.fin) ?_
    refine DH.done [(209, _), (208, _), (204, _), (207, _), (206, _), (205, _), (203, _), (202, _), (201, _), (200, _), (199, _), (198, _), (197, _), (196, _), (195, _), (194, _), (193, _), (192, _), (191, _), (190, _), (189, _), (188, _), (187, _), (186, _), (185, _), (184, _), (183, _), (182, _), (181, _), (180, _), (179, _), (178, _), (177, _), (176, _), (175, _), (174, _), (173, _), (172, _), (171, _), (170, _), (169, _), (168, _), (165, _), (167, _), (166, _), (164, _), (163, _), (162, _), (161, _), (160, _), (159, _), (158, _), (157, _), (156, _), (155, _), (151, _), (154, _), (153, _), (152, _), (150, _), (149, _), (148, _), (147, _), (146, _)] [_, _, _] (by kernel_rfl) (by kernel_rfl) (by kernel_rfl) (by kernel_rfl) rfl rfl ?_
    refine TL.on rfl rfl rfl rfl ?_
    refine TL.callV hF (round_true (r := ⟨1, [(0, 1), (0, 2)], [], [(0, 0), (0, 3), (1, 4)], []⟩) ((hl10.item _ (by simp)).up (by simp)) (y := ⟨⟨1, [(0, 1), (0, 2)], [], [(0, 0), (0, 3), (1, 4)], []⟩, some ⟨b204, 0, none⟩, 2, none, 0, some ⟨b208, 0, none⟩, 3, none, 0⟩) ⟨(row_own (b := b204) (cs := ([(0, 1), (0, 2)] : List Key).flatMap kC) (e := 25) (by simp)), Row.none, (row_own (b := b208) (cs := ([(0, 0), (0, 3), (1, 4)] : List Key).flatMap kC) (e := 25) (by simp)), Row.none⟩ hx10 rfl (by decide)) rfl rfl ?_
    refine TL.pickT hF rfl rfl rfl rfl ?_
    refine TL.assign hF rfl rfl ?_
    refine TL.nil ?_
    refine TQ.then_n ?_
    refine T.ret ?_
    exact TQ.retsF [0] _ hb rfl rfl rfl (fun _ => rfl)
   ·refine TL.on rfl rfl rfl rfl ?_
    refine TL.buildSlice hF rfl (cs := (([(0, 0), (0, 3), (1, 4)] : List Key).flatMap kC).toArray) (e := 25) (fun w => by kernel_rfl) rfl (fun b208 => ?_)
    refine TL.finK ⟨⟨_, rfl, _, _, [(200, _, some 54), (198, _, some 52)], rfl, rfl, ⟨⟨rfl, rfl, rfl⟩, ⟨rfl, rfl, rfl⟩, trivial⟩, fun ext => TL.on rfl rfl rfl rfl <| TL.loadA hF (rhC x10) rfl rfl (hl10.ro.atA (i := 0) (show 0 < 1 by decide)) rfl TL.fin⟩, trivial⟩ ?_
    refine DH.k1 (by kernel_rfl) (by kernel_rfl) (by kernel_rfl) (by kernel_rfl) (HBK.mk (h := 58) [55] [(202, _, some 56), (203, _, some 57), (198, _, some 52)] rfl rfl rfl ⟨⟨rfl, rfl, rfl⟩, ⟨rfl, rfl, rfl⟩, ⟨rfl, rfl, rfl⟩, trivial⟩ (by kernel_rfl) (fun ext => ?_))
    refine TL.on rfl rfl rfl rfl ?_
    refine TL.buildSlice hF rfl (cs := (([(0, 1), (0, 2)] : List Key).flatMap kC).toArray) (e := 25) (fun w => by kernel_rfl) rfl (fun b204 => ?_)
    refine TL.finK ⟨⟨_, rfl, _, _, [(200, _, some 54), (198, _, some 52)], rfl, rfl, ⟨⟨rfl, rfl, rfl⟩, ⟨rfl, rfl, rfl⟩, trivial⟩, fun ext => TL.on rfl rfl rfl rfl <| TL.loadA hF (rhC x10) rfl rfl (hl10.ro.atA (i := 0) (show 0 < 1 by decide)) rfl TL.fin⟩, trivial⟩ ?_
    refine DH.pure (i := 63) [(204, _, some 58), (208, _, some 62), (198, _, some 52)] rfl rfl rfl rfl ⟨⟨rfl, rfl, rfl⟩, ⟨rfl, rfl, rfl⟩, ⟨rfl, rfl, rfl⟩, trivial⟩ (fun _ ext => TL.on rfl rfl rfl rfl <| TL.build hF rfl (r := .agg (rhC ⟨⟨1, [(0, 1), (0, 2)], [], [(0, 0), (0, 3), (1, 4)], []⟩, some ⟨b204, 0, none⟩, 2, none, 0, some ⟨b208, 0, none⟩, 3, none, 0⟩).toArray) (fun w => by kernel_rfl) rfl TL.fin) ?_
    refine DH.done [(209, _), (204, _), (208, _), (207, _), (206, _), (205, _), (203, _), (202, _), (201, _), (200, _), (199, _), (198, _), (197, _), (196, _), (195, _), (194, _), (193, _), (192, _), (191, _), (190, _), (189, _), (188, _), (187, _), (186, _), (185, _), (184, _), (183, _), (182, _), (181, _), (180, _), (179, _), (178, _), (177, _), (176, _), (175, _), (174, _), (173, _), (172, _), (171, _), (170, _), (169, _), (168, _), (165, _), (167, _), (166, _), (164, _), (163, _), (162, _), (161, _), (160, _), (159, _), (158, _), (157, _), (156, _), (155, _), (151, _), (154, _), (153, _), (152, _), (150, _), (149, _), (148, _), (147, _), (146, _)] [_, _, _] (by kernel_rfl) (by kernel_rfl) (by kernel_rfl) (by kernel_rfl) rfl rfl ?_
    refine TL.on rfl rfl rfl rfl ?_
    refine TL.callV hF (round_true (r := ⟨1, [(0, 1), (0, 2)], [], [(0, 0), (0, 3), (1, 4)], []⟩) ((hl10.item _ (by simp)).up (by simp)) (y := ⟨⟨1, [(0, 1), (0, 2)], [], [(0, 0), (0, 3), (1, 4)], []⟩, some ⟨b204, 0, none⟩, 2, none, 0, some ⟨b208, 0, none⟩, 3, none, 0⟩) ⟨(row_own (b := b204) (cs := ([(0, 1), (0, 2)] : List Key).flatMap kC) (e := 25) (by simp)), Row.none, (row_own (b := b208) (cs := ([(0, 0), (0, 3), (1, 4)] : List Key).flatMap kC) (e := 25) (by simp)), Row.none⟩ hx10 rfl (by decide)) rfl rfl ?_
    refine TL.pickT hF rfl rfl rfl rfl ?_
    refine TL.assign hF rfl rfl ?_
    refine TL.nil ?_
    refine TQ.then_n ?_
    refine T.ret ?_
    exact TQ.retsF [0] _ hb rfl rfl rfl (fun _ => rfl)
end Go.Proofs.YtdiacobmhkmljaaDoor
/- Expressions that numbers make. -/
namespace Go.Proofs.YtdiacobmhkmljaaDoor
open Go.Sl
variable {S : Nat → Prop} {w0 : World} {η : Heap}
/-- How large what is drafted can be. -/
def Bd : Nat → Nat
 | 0 => 1
 | d + 1 => 1 + 3 * Bd d
theorem Bd_pos (d : Nat) : 1 ≤ Bd d := by cases d <;> simp [Bd] <;> omega
theorem Bd_le {d : Nat} (h : d ≤ 3) : Bd d ≤ 40 := by
 have : d = 0 ∨ d = 1 ∨ d = 2 ∨ d = 3 := by omega
 rcases this with rfl | rfl | rfl | rfl <;> decide
/-- Numbers of 64 bits. -/
def I64 (n : Int) : Prop := -9223372036854775808 ≤ n ∧ n ≤ 9223372036854775807
theorem nth_i64 {xs : List Int} (h : ∀ x ∈ xs, I64 x) (k : Int) : I64 (nthI xs k) := by
 unfold nthI
 split
 ·unfold I64; omega
 ·rename_i hn
  by_cases hk : (turnI k xs.length).toNat < xs.length
  ·rw [List.getD_eq_getElem?_getD, List.getElem?_eq_getElem hk]; exact h _ (List.getElem_mem hk)
  ·rw [List.getD_eq_getElem?_getD, List.getElem?_eq_none (by omega)]; simp [I64]
theorem tdiv_i64 {n m : Int} (h : I64 n) (hm : 1 < m) : -9223372036854775808 ≤ Int.tdiv n m ∧ Int.tdiv n m ≤ 9223372036854775807 := by
 have h1 := tdiv_abs n m
 unfold I64 at h
 rcases Int.le_total 0 n with h2 | h2
 ·have := Int.tdiv_nonneg h2 (show 0 ≤ m by omega); omega
 ·have := Int.tdiv_nonneg (a := -n) (by omega) (show 0 ≤ m by omega)
  rw [Int.neg_tdiv] at this; omega
theorem partsS_is {q : Int} (h0 : 0 ≤ q) (h6 : q < 7) : ([0, 0, 1, 2, 2, 3, 1] : List Int).getD q.toNat 0 = partsS q := by
 have : q = 0 ∨ q = 1 ∨ q = 2 ∨ q = 3 ∨ q = 4 ∨ q = 5 ∨ q = 6 := by omega
 rcases this with rfl | rfl | rfl | rfl | rfl | rfl | rfl <;> decide
theorem at_getD {a : Option Addr} {xs : List Int} (h : Row S w0 η a (ints xs)) {i : Nat} (hi : i < xs.length) : At S w0 η (sAt a (i * 1)) (.int .i64 (xs.getD i 0)) := by
 have := h.int hi
 rwa [List.getD_eq_getElem?_getD, List.getElem?_eq_getElem hi]
set_option maxHeartbeats 2000000 in
theorem partsR_fn (op : Int) :
  Rt Tryd.prog 53 [.int .i64 op].toArray S w0 η (fun v η' => v = .int .i64 (partsS op) ∧ η' = η) := by
 have hF := open_wide
 refine Rt.of (fn := Tryd.f53) Tryd.func53 rfl rfl ?_
 refine T.seq ?_
 refine T.region ?_
 refine TL.assign hF rfl rfl ?_
 refine TL.nil ?_
 refine TQ.then_n ?_
 refine T.seq ?_
 refine T.seq ?_
 refine T.region ?_
 refine TL.move hF rfl rfl ?_
 refine TL.callV hF (Lies_fn op 0 6) rfl rfl ?_
 refine TL.not hF rfl rfl ?_
 refine TL.nil ?_
 refine TQ.then_n ?_
 refine T.cond _ rfl (fun ht5 => ?_) (fun ht5 => ?_)
 ·refine T.seq ?_
  refine T.region ?_
  refine TL.assign hF rfl rfl ?_
  refine TL.nil ?_
  refine TQ.then_n ?_
  refine T.ret ?_
  refine TQ.then_r ?_
  refine TQ.rets [2] _ rfl rfl rfl ⟨?_, rfl⟩
  have hr : ¬ (0 ≤ op ∧ op ≤ 6) := by have h := ht5; simp at h; omega
  rw [parts_out (by omega)]; rfl
 ·refine T.skip ?_
  refine TQ.then_n ?_
  refine T.seq ?_
  refine T.region ?_
  have hr : 0 ≤ op ∧ op ≤ 6 := by simpa using ht5
  refine TL.buildSlice hF rfl (cs := #[.int .i64 0, .int .i64 0, .int .i64 1, .int .i64 2, .int .i64 2, .int .i64 3, .int .i64 1]) (e := 3) (fun w => by kernel_rfl) rfl (fun b6 => ?_)
  refine TL.move hF rfl rfl ?_
  refine TL.indexAddr hF rfl rfl ⟨_, rfl, rfl⟩ hr.1 (by omega) rfl ?_
  refine TL.load hF rfl (at_getD (xs := [0, 0, 1, 2, 2, 3, 1]) (row_own (cs := [.int .i64 0, .int .i64 0, .int .i64 1, .int .i64 2, .int .i64 2, .int .i64 3, .int .i64 1]) (e := 3) (by simp)) (i := op.toNat) (by simp; omega)) rfl ?_
  refine TL.assign hF rfl rfl ?_
  refine TL.nil ?_
  refine TQ.then_n ?_
  refine T.ret ?_
  refine TQ.pop ?_
  refine TQ.rets [2] _ rfl rfl rfl ⟨?_, rfl⟩
  rw [← partsS_is hr.1 (by omega)]; rfl
structure DS where
 i : Nat
 l : List TE
 a : Option Addr
 c : Nat
 g : Seg
 at' : Int
 H : Heap
theorem szs_snoc (l : List TE) (x : TE) : szs (l ++ [x]) = szs l + sizeE x.ex := by rw [szs_app]; simp [szs, sizesE]
theorem parts3 {q : Int} (h : q = 2 ∨ q = 3 ∨ q = 4 ∨ q = 5 ∨ q = 6) : 1 ≤ partsS q ∧ partsS q ≤ 3 := by
 rcases h with rfl | rfl | rfl | rfl | rfl <;> decide
theorem own_listM4 {b : Nat} {op n at' : Int} {la : Option Addr} {k lc : Nat} {e : TypeId} (h : [(b, Obj.cells [.int .i64 op, .int .i64 n, .slice la k lc, .int .i64 at'].toArray e (0, 0))] ∈ η) : ∀ j v, ([.int .i64 op, .int .i64 n, .slice la k lc] : List Value)[j]? = some v → At S w0 η ⟨b, 0 + 0 + j, none⟩ v := fun j v hj => by
 have := own_listM (S := S) (w0 := w0) h j v (by match j, hj with | 0, h => exact h | 1, h => exact h | 2, h => exact h)
 simpa using this
set_option maxHeartbeats 8000000 in
theorem drafted_step {a : Option Addr} {xs : List Int} {c : Nat} {funs : Int} (hx : Row S w0 [] a (ints xs)) (hxl : xs.length < 9223372036854775808) (hxb : ∀ x ∈ xs, I64 x) (hf1 : 1 ≤ funs) (hf3 : funs ≤ 8) (d : Nat) (hd3 : d ≤ 3) (IH : ∀ (d' : Nat) (at0' : Int) (η : Heap), d = d' + 1 → 0 ≤ at0' → at0' ≤ 4611686018427387904 + 40 * (3 - (d' : Int)) → Rt Tryd.prog 34 [.slice a xs.length c, .int .i64 at0', .int .i64 (d' : Nat), .int .i64 funs].toArray S w0 η (fun v η' => ∃ x at' segs, v = .agg #[.int .i64 x.op, .int .i64 x.n, .slice x.a x.l.length x.c, .int .i64 at'] ∧ Tr S w0 segs x ∧ rightE funs x.ex = true ∧ sizeE x.ex ≤ Bd d' ∧ depE x.ex ≤ d' + 2 ∧ at0' ≤ at' ∧ at' ≤ at0' + Bd d' ∧ η' = segs ++ η)) (at0' : Int) (η : Heap) (ha0 : 0 ≤ at0') (ha1 : at0' ≤ 4611686018427387904 + 40 * (3 - (d : Int))) :
  Rt Tryd.prog 34 [.slice a xs.length c, .int .i64 at0', .int .i64 (d : Nat), .int .i64 funs].toArray S w0 η (fun v η' => ∃ x at' segs, v = .agg #[.int .i64 x.op, .int .i64 x.n, .slice x.a x.l.length x.c, .int .i64 at'] ∧ Tr S w0 segs x ∧ rightE funs x.ex = true ∧ sizeE x.ex ≤ Bd d ∧ depE x.ex ≤ d + 2 ∧ at0' ≤ at' ∧ at' ≤ at0' + Bd d ∧ η' = segs ++ η) := by
 have hn := nth_i64 hxb at0' 
 have hF := open_wide
 refine Rt.of (fn := Tryd.f34) Tryd.func34 rfl rfl ?_
 refine T.seq ?_
 refine T.region ?_
 refine TL.alloc hF rfl (fun b8 => ?_)
 refine TL.nil ?_
 refine TQ.then_n ?_
 refine T.seq ?_
 refine T.region ?_
 refine TL.move hF rfl rfl ?_
 refine TL.move hF rfl rfl ?_
 refine TL.callV hF (Nth_fn at0' hx.ro (by omega)) rfl rfl ?_
 refine TL.assign hF rfl rfl ?_
 refine TL.nil ?_
 refine TQ.then_n ?_
 refine T.seq ?_
 refine T.region ?_
 refine TL.move hF rfl rfl ?_
 refine TL.callV hF (Turn_fn (nthI xs at0') (m := 12) (by decide)) rfl rfl ?_
 refine TL.assign hF rfl rfl ?_
 refine TL.nil ?_
 refine TQ.then_n ?_
 refine T.seq ?_
 refine T.seq ?_
 refine T.region ?_
 refine TL.move hF rfl rfl ?_
 refine TL.bin hF rfl rfl rfl rfl ?_
 refine TL.move hF rfl rfl ?_
 refine TL.gd (t := 23) rfl (fun g3_23 => ?_) (fun g3_23 => ?_)
 ·refine TL.off hF rfl rfl rfl (decide_eq_true g3_23) rfl ?_
  refine TL.off hF rfl rfl rfl (decide_eq_true g3_23) rfl ?_
  refine TL.pickT hF rfl (decide_eq_true g3_23) rfl rfl ?_
  refine TL.nil ?_
  refine TQ.then_n ?_
  refine T.cond_t rfl rfl ?_
  refine T.seq ?_
  refine T.seq ?_
  refine T.region ?_
  refine TL.move hF rfl rfl ?_
  have hop := turnI_range (nthI xs at0') (m := 12) (by decide)
  refine TL.remI hF rfl rfl (by decide) rfl ?_
  refine TL.bin hF rfl rfl rfl rfl ?_
  refine TL.nil ?_
  refine TQ.then_n ?_
  first | refine T.cond_d rfl (fun ht29 => ?_) (fun ht29 => ?_) | refine T.cond _ rfl (fun ht29 => ?_) (fun ht29 => ?_)
  ·refine T.seq ?_
   refine T.region ?_
   refine TL.move hF rfl rfl ?_
   refine TL.quoI hF rfl rfl (by decide) (wrap_i64 (tdiv_i64 hn (by decide)).1 (tdiv_i64 hn (by decide)).2) rfl ?_
   refine TL.callV hF (Turn_fn (Int.tdiv (nthI xs at0') 12) (m := 9) (by decide)) rfl rfl ?_
   have h9 := turnI_range (Int.tdiv (nthI xs at0') 12) (m := 9) (by decide)
   refine TL.sub hF rfl rfl (by omega) (by omega) rfl ?_
   refine TL.build hF rfl (r := .agg #[.int .i64 0, .int .i64 (turnI (Int.tdiv (nthI xs at0') 12) 9 - 3), .slice none 0 0]) (fun w => by kernel_rfl) rfl ?_
   refine TL.move hF rfl rfl ?_
   refine TL.add hF rfl rfl (by omega) (by omega) rfl ?_
   refine TL.build hF rfl (r := .agg #[.int .i64 0, .int .i64 (turnI (Int.tdiv (nthI xs at0') 12) 9 - 3), .slice none 0 0, .int .i64 (at0' + 1)]) (fun w => by kernel_rfl) rfl ?_
   refine TL.storeAs hF [.int .i64 0, .int .i64 (turnI (Int.tdiv (nthI xs at0') 12) 9 - 3), .slice none 0 0, .int .i64 (at0' + 1)] [.int .i64 0, .int .i64 (turnI (Int.tdiv (nthI xs at0') 12) 9 - 3), .slice none 0 0, .int .i64 (at0' + 1)] 0 (cs := [.int .i64 0, .int .i64 0, .slice none 0 0, .int .i64 0]) rfl rfl rfl rfl (by simp [Value.oneCell']) (Nat.le_refl 4) rfl ?_
   refine TL.nil ?_
   refine TQ.then_n ?_
   refine T.ret ?_
   refine TQ.then_r ?_
   refine TQ.then_r ?_
   refine TQ.retC [.int .i64 0, .int .i64 (turnI (Int.tdiv (nthI xs at0') 12) 9 - 3), .slice none 0 0, .int .i64 (at0' + 1)] η rfl rfl rfl (own_list (i := 0) (cs := [.int .i64 0, .int .i64 (turnI (Int.tdiv (nthI xs at0') 12) 9 - 3), .slice none 0 0, .int .i64 (at0' + 1)]) rfl) (by simp) ?_
   refine ⟨.nd 0 (turnI (Int.tdiv (nthI xs at0') 12) 9 - 3) none 0 [], at0' + 1, [], rfl, tr_leaf _ _, ?_, ?_, ?_, by omega, by have := Bd_pos d; omega, rfl⟩
   ·rw [TE.ex, TE.exs, rightE, rightsE, okN0 rfl, isW_iff.2 (by omega)]; rfl
   ·show 1 + 0 ≤ Bd d; exact Bd_pos d
   ·show 0 + 1 ≤ d + 2; omega
  ·refine T.skip ?_
   refine TQ.then_n ?_
   refine T.seq ?_
   refine T.region ?_
   refine TL.build hF rfl (r := .agg #[.int .i64 1, .int .i64 0, .slice none 0 0]) (fun w => by kernel_rfl) rfl ?_
   refine TL.move hF rfl rfl ?_
   refine TL.add hF rfl rfl (by omega) (by omega) rfl ?_
   refine TL.build hF rfl (r := .agg #[.int .i64 1, .int .i64 0, .slice none 0 0, .int .i64 (at0' + 1)]) (fun w => by kernel_rfl) rfl ?_
   refine TL.storeAs hF [.int .i64 1, .int .i64 0, .slice none 0 0, .int .i64 (at0' + 1)] [.int .i64 1, .int .i64 0, .slice none 0 0, .int .i64 (at0' + 1)] 0 (cs := [.int .i64 0, .int .i64 0, .slice none 0 0, .int .i64 0]) rfl rfl rfl rfl (by simp [Value.oneCell']) (Nat.le_refl 4) rfl ?_
   refine TL.nil ?_
   refine TQ.then_n ?_
   refine T.ret ?_
   refine TQ.then_r ?_
   refine TQ.retC [.int .i64 1, .int .i64 0, .slice none 0 0, .int .i64 (at0' + 1)] η rfl rfl rfl (own_list (i := 0) (cs := [.int .i64 1, .int .i64 0, .slice none 0 0, .int .i64 (at0' + 1)]) rfl) (by simp) ?_
   refine ⟨.nd 1 0 none 0 [], at0' + 1, [], rfl, tr_leaf _ _, ?_, ?_, ?_, by omega, by have := Bd_pos d; omega, rfl⟩
   ·rw [TE.ex, TE.exs, rightE, rightsE, okN_ (by decide) (by decide) (by decide)]; rfl
   ·show 1 + 0 ≤ Bd d; exact Bd_pos d
   ·show 0 + 1 ≤ d + 2; omega
 ·refine TL.on rfl rfl rfl (decide_eq_false g3_23) ?_
  refine TL.move hF rfl rfl ?_
  refine TL.on rfl rfl rfl (decide_eq_false g3_23) ?_
  refine TL.bin hF rfl rfl rfl rfl ?_
  refine TL.pickF hF rfl (decide_eq_false g3_23) rfl rfl ?_
  refine TL.nil ?_
  refine TQ.then_n ?_
  first | refine T.cond_d rfl (fun ht26 => ?_) (fun ht26 => ?_) | refine T.cond _ rfl (fun ht26 => ?_) (fun ht26 => ?_)
  ·refine T.seq ?_
   refine T.seq ?_
   refine T.region ?_
   refine TL.move hF rfl rfl ?_
   have hop := turnI_range (nthI xs at0') (m := 12) (by decide)
   refine TL.remI hF rfl rfl (by decide) rfl ?_
   refine TL.bin hF rfl rfl rfl rfl ?_
   refine TL.nil ?_
   refine TQ.then_n ?_
   first | refine T.cond_d rfl (fun ht29 => ?_) (fun ht29 => ?_) | refine T.cond _ rfl (fun ht29 => ?_) (fun ht29 => ?_)
   ·refine T.seq ?_
    refine T.region ?_
    refine TL.move hF rfl rfl ?_
    refine TL.quoI hF rfl rfl (by decide) (wrap_i64 (tdiv_i64 hn (by decide)).1 (tdiv_i64 hn (by decide)).2) rfl ?_
    refine TL.callV hF (Turn_fn (Int.tdiv (nthI xs at0') 12) (m := 9) (by decide)) rfl rfl ?_
    have h9 := turnI_range (Int.tdiv (nthI xs at0') 12) (m := 9) (by decide)
    refine TL.sub hF rfl rfl (by omega) (by omega) rfl ?_
    refine TL.build hF rfl (r := .agg #[.int .i64 0, .int .i64 (turnI (Int.tdiv (nthI xs at0') 12) 9 - 3), .slice none 0 0]) (fun w => by kernel_rfl) rfl ?_
    refine TL.move hF rfl rfl ?_
    refine TL.add hF rfl rfl (by omega) (by omega) rfl ?_
    refine TL.build hF rfl (r := .agg #[.int .i64 0, .int .i64 (turnI (Int.tdiv (nthI xs at0') 12) 9 - 3), .slice none 0 0, .int .i64 (at0' + 1)]) (fun w => by kernel_rfl) rfl ?_
    refine TL.storeAs hF [.int .i64 0, .int .i64 (turnI (Int.tdiv (nthI xs at0') 12) 9 - 3), .slice none 0 0, .int .i64 (at0' + 1)] [.int .i64 0, .int .i64 (turnI (Int.tdiv (nthI xs at0') 12) 9 - 3), .slice none 0 0, .int .i64 (at0' + 1)] 0 (cs := [.int .i64 0, .int .i64 0, .slice none 0 0, .int .i64 0]) rfl rfl rfl rfl (by simp [Value.oneCell']) (Nat.le_refl 4) rfl ?_
    refine TL.nil ?_
    refine TQ.then_n ?_
    refine T.ret ?_
    refine TQ.then_r ?_
    refine TQ.then_r ?_
    refine TQ.retC [.int .i64 0, .int .i64 (turnI (Int.tdiv (nthI xs at0') 12) 9 - 3), .slice none 0 0, .int .i64 (at0' + 1)] η rfl rfl rfl (own_list (i := 0) (cs := [.int .i64 0, .int .i64 (turnI (Int.tdiv (nthI xs at0') 12) 9 - 3), .slice none 0 0, .int .i64 (at0' + 1)]) rfl) (by simp) ?_
    refine ⟨.nd 0 (turnI (Int.tdiv (nthI xs at0') 12) 9 - 3) none 0 [], at0' + 1, [], rfl, tr_leaf _ _, ?_, ?_, ?_, by omega, by have := Bd_pos d; omega, rfl⟩
    ·rw [TE.ex, TE.exs, rightE, rightsE, okN0 rfl, isW_iff.2 (by omega)]; rfl
    ·show 1 + 0 ≤ Bd d; exact Bd_pos d
    ·show 0 + 1 ≤ d + 2; omega
   ·refine T.skip ?_
    refine TQ.then_n ?_
    refine T.seq ?_
    refine T.region ?_
    refine TL.build hF rfl (r := .agg #[.int .i64 1, .int .i64 0, .slice none 0 0]) (fun w => by kernel_rfl) rfl ?_
    refine TL.move hF rfl rfl ?_
    refine TL.add hF rfl rfl (by omega) (by omega) rfl ?_
    refine TL.build hF rfl (r := .agg #[.int .i64 1, .int .i64 0, .slice none 0 0, .int .i64 (at0' + 1)]) (fun w => by kernel_rfl) rfl ?_
    refine TL.storeAs hF [.int .i64 1, .int .i64 0, .slice none 0 0, .int .i64 (at0' + 1)] [.int .i64 1, .int .i64 0, .slice none 0 0, .int .i64 (at0' + 1)] 0 (cs := [.int .i64 0, .int .i64 0, .slice none 0 0, .int .i64 0]) rfl rfl rfl rfl (by simp [Value.oneCell']) (Nat.le_refl 4) rfl ?_
    refine TL.nil ?_
    refine TQ.then_n ?_
    refine T.ret ?_
    refine TQ.then_r ?_
    refine TQ.retC [.int .i64 1, .int .i64 0, .slice none 0 0, .int .i64 (at0' + 1)] η rfl rfl rfl (own_list (i := 0) (cs := [.int .i64 1, .int .i64 0, .slice none 0 0, .int .i64 (at0' + 1)]) rfl) (by simp) ?_
    refine ⟨.nd 1 0 none 0 [], at0' + 1, [], rfl, tr_leaf _ _, ?_, ?_, ?_, by omega, by have := Bd_pos d; omega, rfl⟩
    ·rw [TE.ex, TE.exs, rightE, rightsE, okN_ (by decide) (by decide) (by decide)]; rfl
    ·show 1 + 0 ≤ Bd d; exact Bd_pos d
    ·show 0 + 1 ≤ d + 2; omega
  ·refine T.skip ?_
   refine TQ.then_n ?_
   refine T.seq ?_
   refine T.region ?_
   have hop := turnI_range (nthI xs at0') (m := 12) (by decide)
   have hd0 : d ≠ 0 := (by intro h; subst h; first | exact absurd rfl g3_23 | (have h3 : ¬ ((0 : Nat) : Int) = 0 := g3_23; omega))
   obtain ⟨d1, hd1⟩ : ∃ d1, d = d1 + 1 := ⟨d - 1, by omega⟩
   refine TL.buildSlice hF rfl (cs := #[.int .i64 2, .int .i64 2, .int .i64 3, .int .i64 3, .int .i64 4, .int .i64 5, .int .i64 6, .int .i64 6, .int .i64 6]) (e := 3) (fun w => by kernel_rfl) rfl (fun b42 => ?_)
   refine TL.move hF rfl rfl ?_
   refine TL.sub hF rfl rfl (by omega) (by omega) rfl ?_
   refine TL.indexAddr hF rfl rfl ⟨_, rfl, rfl⟩ (by omega) (by omega) rfl ?_
   refine TL.load hF rfl (at_getD (xs := ([2, 2, 3, 3, 4, 5, 6, 6, 6] : List Int)) (row_own (cs := [.int .i64 2, .int .i64 2, .int .i64 3, .int .i64 3, .int .i64 4, .int .i64 5, .int .i64 6, .int .i64 6, .int .i64 6]) (e := 3) (by simp)) (i := ((turnI (nthI xs at0') 12) - 3).toNat) (by simp; omega)) rfl ?_
   have hq : ∀ i : Nat, i < 9 → (([2, 2, 3, 3, 4, 5, 6, 6, 6] : List Int).getD i 0 = 2 ∨ ([2, 2, 3, 3, 4, 5, 6, 6, 6] : List Int).getD i 0 = 3 ∨ ([2, 2, 3, 3, 4, 5, 6, 6, 6] : List Int).getD i 0 = 4 ∨ ([2, 2, 3, 3, 4, 5, 6, 6, 6] : List Int).getD i 0 = 5 ∨ ([2, 2, 3, 3, 4, 5, 6, 6, 6] : List Int).getD i 0 = 6) := by decide
   have hq2 := hq ((turnI (nthI xs at0') 12) - 3).toNat (by omega)
   clear hq
   generalize ([2, 2, 3, 3, 4, 5, 6, 6, 6] : List Int).getD ((turnI (nthI xs at0') 12) - 3).toNat 0 = q at hq2 ⊢
   refine TL.build hF rfl (r := .agg #[.int .i64 q, .int .i64 0, .slice none 0 0]) (fun w => by kernel_rfl) rfl ?_
   refine TL.alloc hF rfl (fun b11 => ?_)
   refine TL.storeAI hF [.int .i64 q, .int .i64 0, .slice none 0 0] 0 rfl rfl rfl rfl (by simp [Value.oneCell']) (by simp [Value.cells]) ?_
   refine TL.nil ?_
   refine TQ.then_n ?_
   refine T.cut (ι := Int) (fun N => okN funs q N = true) (fun N => [(0, .slice a xs.length c), (1, .int .i64 at0'), (2, .int .i64 ((d : Nat) : Int)), (3, .int .i64 funs), (8, ptr b8), (11, ptr b11)]) (fun N => [(b11, Obj.cells #[.int .i64 q, .int .i64 N, .slice none 0 0] 72 (0, 0))] :: [(b42, Obj.cells #[.int .i64 2, .int .i64 2, .int .i64 3, .int .i64 3, .int .i64 4, .int .i64 5, .int .i64 6, .int .i64 6, .int .i64 6] 3 (0, 0))] :: [(b8, Obj.cells #[.int .i64 0, .int .i64 0, .slice none 0 0, .int .i64 0] 78 (0, 0))] :: η) ?_ ?_
   ·refine T.seq ?_
    refine T.region ?_
    refine TL.fieldAddr hF rfl rfl ?_
    refine TL.load hF rfl (by first | exact At.own' (i := 0) rfl rfl | exact At.own' (i := 1) rfl rfl | exact At.own' (i := 2) rfl rfl | exact At.own' (i := 3) rfl rfl | exact At.own' (i := 4) rfl rfl | exact At.own' (i := 5) rfl rfl | exact At.own' (i := 6) rfl rfl | exact At.own' (i := 7) rfl rfl | exact At.own' (i := 8) rfl rfl | exact At.own' (i := 9) rfl rfl | exact At.own' (i := 10) rfl rfl | exact At.own' (i := 11) rfl rfl | exact At.own' (i := 12) rfl rfl) rfl ?_
    refine TL.nil ?_
    refine TQ.then_n ?_
    refine T.block ?_
    refine T.seq ?_
    refine T.region ?_
    refine TL.bin hF rfl rfl rfl rfl ?_
    refine TL.assign hF rfl rfl ?_
    refine TL.nil ?_
    refine TQ.then_n ?_
    first | refine T.cond_d rfl (fun ht50 => ?_) (fun ht50 => ?_) | refine T.cond _ rfl (fun ht50 => ?_) (fun ht50 => ?_)
    ·refine T.region ?_
     refine TL.move hF rfl rfl ?_
     refine TL.quoI hF rfl rfl (by decide) (wrap_i64 (tdiv_i64 hn (by decide)).1 (tdiv_i64 hn (by decide)).2) rfl ?_
     refine TL.callV hF (Turn_fn (Int.tdiv (nthI xs at0') 12) (m := 10) (by decide)) rfl rfl ?_
     refine TL.fieldAddr hF rfl rfl ?_
     refine TL.storeI hF 0 rfl rfl rfl rfl (by simp [Value.cells]) ?_
     refine TL.nil ?_
     refine TQ.block_n ?_
     have h10 := turnI_range (Int.tdiv (nthI xs at0') 12) (m := 10) (by decide)
     refine TQ.cut (turnI (Int.tdiv (nthI xs at0') 12) 10) (by rw [okN3 ht50, decide_eq_true h10.1, decide_eq_true (show turnI (Int.tdiv (nthI xs at0') 12) 10 ≤ 9 by omega)]; rfl) ⟨rfl, rfl, rfl, rfl, rfl, rfl, trivial⟩ rfl
    ·refine T.seq ?_
     refine T.region ?_
     refine TL.bin hF rfl rfl rfl rfl ?_
     refine TL.assign hF rfl rfl ?_
     refine TL.nil ?_
     refine TQ.then_n ?_
     first | refine T.cond_d rfl (fun ht56 => ?_) (fun ht56 => ?_) | refine T.cond _ rfl (fun ht56 => ?_) (fun ht56 => ?_)
     ·refine T.seq ?_
      refine T.region ?_
      refine TL.move hF rfl rfl ?_
      refine TL.quoI hF rfl rfl (by decide) (wrap_i64 (tdiv_i64 hn (by decide)).1 (tdiv_i64 hn (by decide)).2) rfl ?_
      refine TL.move hF rfl rfl ?_
      refine TL.callV hF (Turn_fn (Int.tdiv (nthI xs at0') 12) (m := funs) (by omega)) rfl rfl ?_
      refine TL.fieldAddr hF rfl rfl ?_
      refine TL.storeI hF 0 rfl rfl rfl rfl (by simp [Value.cells]) ?_
      refine TL.nil ?_
      refine TQ.then_n ?_
      refine T.seq ?_
      refine T.region ?_
      refine TL.move hF rfl rfl ?_
      refine TL.quoI hF rfl rfl (by decide) (wrap_i64 (tdiv_i64 hn (by decide)).1 (tdiv_i64 hn (by decide)).2) rfl ?_
      refine TL.callV hF (Turn_fn (Int.tdiv (nthI xs at0') 100) (m := 5) (by decide)) rfl rfl ?_
      refine TL.assign hF rfl rfl ?_
      refine TL.nil ?_
      refine TQ.then_n ?_
      refine T.seq ?_
      refine T.region ?_
      refine TL.move hF rfl rfl ?_
      refine TL.bin hF rfl rfl rfl rfl ?_
      refine TL.nil ?_
      refine TQ.then_n ?_
      first | refine T.cond_d rfl (fun ht67 => ?_) (fun ht67 => ?_) | refine T.cond _ rfl (fun ht67 => ?_) (fun ht67 => ?_)
      ·refine T.seq ?_
       refine T.region ?_
       refine TL.build hF rfl (r := .agg #[.int .i64 1, .int .i64 0, .slice none 0 0]) (fun w => by kernel_rfl) rfl ?_
       refine TL.move hF rfl rfl ?_
       have h5 := turnI_range (Int.tdiv (nthI xs at0') 100) (m := 5) (by decide)
       have hm2 := tmod_range (turnI (Int.tdiv (nthI xs at0') 100) 5) (m := 2) (by decide)
       refine TL.remI hF rfl rfl (by decide) rfl ?_
       refine TL.add hF rfl rfl (by omega) (by omega) rfl ?_
       refine TL.build hF rfl (r := .agg #[.int .i64 0, .int .i64 (1 + Int.tmod (turnI (Int.tdiv (nthI xs at0') 100) 5) 2), .slice none 0 0]) (fun w => by kernel_rfl) rfl ?_
       refine TL.buildSlice hF rfl (cs := (([.nd 1 0 none 0 [], .nd 0 (1 + Int.tmod (turnI (Int.tdiv (nthI xs at0') 100) 5) 2) none 0 []] : List TE).flatMap teC).toArray) (e := 72) (fun w => by kernel_rfl) rfl (fun b73 => ?_)
       refine TL.build hF rfl (r := .agg #[.int .i64 3, .int .i64 1, .slice (some ⟨b73, 0, none⟩) 2 2]) (fun w => by kernel_rfl) rfl ?_
       refine TL.alloc hF rfl (fun b13 => ?_)
       refine TL.storeAI hF [.int .i64 3, .int .i64 1, .slice (some ⟨b73, 0, none⟩) 2 2] 0 rfl rfl rfl rfl (by simp [Value.oneCell']) (by simp [Value.cells]) ?_
       refine TL.nil ?_
       refine TQ.then_n ?_
       refine T.seq ?_
       refine T.region ?_
       refine TL.fieldAddr hF rfl rfl ?_
       refine TL.load hF rfl (At.own' (i := 2) rfl rfl) rfl ?_
       refine TL.fieldAddr hF rfl rfl ?_
       refine TL.load hF rfl (At.own' (i := 2) rfl rfl) rfl ?_
       refine TL.loadA hF [.int .i64 3, .int .i64 1, .slice (some ⟨b73, 0, none⟩) 2 2] rfl rfl (own_list (i := 0) (cs := [.int .i64 3, .int .i64 1, .slice (some ⟨b73, 0, none⟩) 2 2]) rfl) rfl ?_
       refine TL.buildSlice hF rfl (cs := (([(TE.nd 3 1 (some ⟨b73, 0, none⟩) 2 ([.nd 1 0 none 0 [], .nd 0 (1 + Int.tmod (turnI (Int.tdiv (nthI xs at0') 100) 5) 2) none 0 []] : List TE))] : List TE).flatMap teC).toArray) (e := 72) (fun w => by kernel_rfl) rfl (fun b80 => ?_)
       refine TL.build hF rfl (r := .agg #[.int .i64 q, .int .i64 (turnI (Int.tdiv (nthI xs at0') 12) funs), .slice (some ⟨b80, 0, none⟩) 1 1]) (fun w => by kernel_rfl) rfl ?_
       refine TL.move hF rfl rfl ?_
       refine TL.add hF rfl rfl (by omega) (by omega) rfl ?_
       refine TL.build hF rfl (r := .agg #[.int .i64 q, .int .i64 (turnI (Int.tdiv (nthI xs at0') 12) funs), .slice (some ⟨b80, 0, none⟩) 1 1, .int .i64 (at0' + 1)]) (fun w => by kernel_rfl) rfl ?_
       refine TL.storeAs hF [.int .i64 q, .int .i64 (turnI (Int.tdiv (nthI xs at0') 12) funs), .slice (some ⟨b80, 0, none⟩) 1 1, .int .i64 (at0' + 1)] [.int .i64 q, .int .i64 (turnI (Int.tdiv (nthI xs at0') 12) funs), .slice (some ⟨b80, 0, none⟩) 1 1, .int .i64 (at0' + 1)] 5 (cs := [.int .i64 0, .int .i64 0, .slice none 0 0, .int .i64 0]) rfl rfl rfl rfl (by simp [Value.oneCell']) (Nat.le_refl 4) rfl ?_
       refine TL.nil ?_
       refine TQ.then_n ?_
       refine T.ret ?_
       refine TQ.block_r ?_
       refine TQ.then_r ?_
       have hfk := turnI_range (Int.tdiv (nthI xs at0') 12) (m := funs) (by omega)
       have hB4 : 4 ≤ Bd d := by rw [hd1]; have := Bd_pos d1; show 4 ≤ 1 + 3 * Bd d1; omega
       refine TQ.retC [.int .i64 q, .int .i64 (turnI (Int.tdiv (nthI xs at0') 12) funs), .slice (some ⟨b80, 0, none⟩) 1 1, .int .i64 (at0' + 1)] ([[(b80, Obj.cells (([(TE.nd 3 1 (some ⟨b73, 0, none⟩) 2 ([.nd 1 0 none 0 [], .nd 0 (1 + Int.tmod (turnI (Int.tdiv (nthI xs at0') 100) 5) 2) none 0 []] : List TE))] : List TE).flatMap teC).toArray 72 (0, 0))], [(b73, Obj.cells (([.nd 1 0 none 0 [], .nd 0 (1 + Int.tmod (turnI (Int.tdiv (nthI xs at0') 100) 5) 2) none 0 []] : List TE).flatMap teC).toArray 72 (0, 0))]] ++ η) rfl rfl rfl (own_list (i := 5) (cs := [.int .i64 q, .int .i64 (turnI (Int.tdiv (nthI xs at0') 12) funs), .slice (some ⟨b80, 0, none⟩) 1 1, .int .i64 (at0' + 1)]) rfl) (List.Sublist.cons_cons _ (List.Sublist.cons _ (List.Sublist.cons_cons _ (List.Sublist.cons _ (List.Sublist.cons _ (List.sublist_cons_self _ _)))))) ?_
       refine ⟨.nd q (turnI (Int.tdiv (nthI xs at0') 12) funs) (some ⟨b80, 0, none⟩) 1 [(TE.nd 3 1 (some ⟨b73, 0, none⟩) 2 ([.nd 1 0 none 0 [], .nd 0 (1 + Int.tmod (turnI (Int.tdiv (nthI xs at0') 100) 5) 2) none 0 []] : List TE))], at0' + 1, _, rfl, ?_, ?_, ?_, ?_, by omega, by omega, rfl⟩
       ·refine tr_own (by simp) (Nat.le_refl _) (by simp) fun y hy => ?_
        rw [List.mem_singleton.1 hy]
        refine tr_own (by simp) (Nat.le_refl _) (by simp) fun z hz => ?_
        simp only [List.mem_cons, List.not_mem_nil, or_false] at hz
        rcases hz with rfl | rfl
        ·exact tr_leaf _ _
        ·exact tr_leaf _ _
       ·have h1 : okN funs q (turnI (Int.tdiv (nthI xs at0') 12) funs) = true := by rw [okN6 ht56, decide_eq_true hfk.1, decide_eq_true (show (turnI (Int.tdiv (nthI xs at0') 12) funs) ≤ funs - 1 by omega)]; rfl
        have h2 : okN funs 0 (1 + Int.tmod (turnI (Int.tdiv (nthI xs at0') 100) 5) 2) = true := by rw [okN0 rfl, isW_iff.2 (by omega)]
        have h3 : okN funs 3 1 = true := by rw [okN3 rfl]; decide
        have h4 : okN funs 1 0 = true := okN_ (by decide) (by decide) (by decide)
        have h5 : partsS q = 1 := by rw [ht56]; rfl
        simp only [TE.ex, TE.exs, rightE, rightsE, h1, h2, h3, h4, h5, Bool.and_true, List.length_cons, List.length_nil]
        rfl
       ·show 1 + ((1 + ((1 + 0) + ((1 + 0) + 0))) + 0) ≤ Bd d; omega
       ·show max (max (0 + 1) (max (0 + 1) 0) + 1) 0 + 1 ≤ d + 2; omega
      ·refine T.skip ?_
       refine TQ.block_n ?_
       have hfk := turnI_range (Int.tdiv (nthI xs at0') 12) (m := funs) (by omega)
       refine TQ.cut (turnI (Int.tdiv (nthI xs at0') 12) funs) (by rw [okN6 ht56, decide_eq_true hfk.1, decide_eq_true (show (turnI (Int.tdiv (nthI xs at0') 12) funs) ≤ funs - 1 by omega)]; rfl) ⟨rfl, rfl, rfl, rfl, rfl, rfl, trivial⟩ rfl
     ·refine T.skip ?_
      refine TQ.block_n ?_
      refine TQ.cut 0 (okN_ (by omega) ht50 ht56) ⟨rfl, rfl, rfl, rfl, rfl, rfl, trivial⟩ rfl
   ·intro N hN
    refine T.seq ?_
    refine T.region ?_
    refine TL.move hF rfl rfl ?_
    refine TL.add hF rfl rfl (by omega) (by omega) rfl ?_
    refine TL.assign hF rfl rfl ?_
    refine TL.nil ?_
    refine TQ.then_n ?_
    refine T.seq ?_
    refine T.seq ?_
    refine T.region ?_
    refine TL.assign hF rfl rfl ?_
    refine TL.nil ?_
    refine TQ.then_n ?_
    refine T.block ?_
    have hpq := parts3 hq2
    refine T.hnil ?_
    refine T.pick [1, 0] [_, _] rfl rfl rfl ?_
    refine T.loop (ι := DS) (fun s => s.i ≤ 3 ∧ (s.i : Int) ≤ partsS q ∧ s.l.length = s.i ∧ (∀ x ∈ s.l, Tr S w0 s.H x ∧ rightE funs x.ex = true ∧ depE x.ex ≤ d1 + 2) ∧ szs s.l ≤ s.i * Bd d1 ∧ at0' ≤ s.at' ∧ s.at' ≤ at0' + 1 + s.i * Bd d1 ∧ OSl 72 3 (.slice s.a s.l.length s.c) s.l.length (s.l.flatMap teC) s.g) (fun s => [(0, .slice a xs.length c), (1, .int .i64 s.at'), (2, .int .i64 ((d : Nat) : Int)), (3, .int .i64 funs), (8, ptr b8), (11, ptr b11), (14, .int .i64 (s.i : Int))]) (fun s => [(b11, Obj.cells #[.int .i64 q, .int .i64 N, .slice s.a s.l.length s.c] 72 (0, 0))] :: s.g :: (s.H ++ ([(b42, Obj.cells #[.int .i64 2, .int .i64 2, .int .i64 3, .int .i64 3, .int .i64 4, .int .i64 5, .int .i64 6, .int .i64 6, .int .i64 6] 3 (0, 0))] :: [(b8, Obj.cells #[.int .i64 0, .int .i64 0, .slice none 0 0, .int .i64 0] 78 (0, 0))] :: η))) (fun s => 3 - s.i) ⟨0, [], none, 0, [], at0' + 1, []⟩ ⟨Nat.zero_le 3, by show (0 : Int) ≤ _; omega, rfl, by simp, by simp [szs, sizesE], by show at0' ≤ at0' + 1; omega, by show at0' + 1 ≤ at0' + 1 + ((0 : Nat) : Int) * _; omega, OSl.nil _ _⟩ ⟨rfl, rfl, rfl, rfl, rfl, rfl, rfl, trivial⟩ rfl ?_
    rintro ⟨i, l, la, lc, lg, att, HH⟩ ⟨hi3, hip, hll, hlt, hsz, hat1, hat2, ho⟩
    dsimp only at hi3 hip hll hlt hsz hat1 hat2 ho
    have hBd : Bd d1 ≤ 13 := by
     have : d1 = 0 ∨ d1 = 1 ∨ d1 = 2 := by omega
     rcases this with rfl | rfl | rfl <;> decide
    have hiB : i * Bd d1 ≤ 3 * Bd d1 := Nat.mul_le_mul_right _ hi3
    refine T.seq ?_
    refine T.seq ?_
    refine T.region ?_
    refine TL.move hF rfl rfl ?_
    refine TL.fieldAddr hF rfl rfl ?_
    refine TL.load hF rfl (by first | exact At.own' (i := 0) rfl rfl | exact At.own' (i := 1) rfl rfl | exact At.own' (i := 2) rfl rfl | exact At.own' (i := 3) rfl rfl | exact At.own' (i := 4) rfl rfl | exact At.own' (i := 5) rfl rfl | exact At.own' (i := 6) rfl rfl | exact At.own' (i := 7) rfl rfl | exact At.own' (i := 8) rfl rfl | exact At.own' (i := 9) rfl rfl | exact At.own' (i := 10) rfl rfl | exact At.own' (i := 11) rfl rfl | exact At.own' (i := 12) rfl rfl) rfl ?_
    refine TL.callV hF (partsR_fn q) rfl rfl ?_
    refine TL.bin hF rfl rfl rfl rfl ?_
    refine TL.nil ?_
    refine TQ.then_n ?_
    first | refine T.cond_d rfl (fun ht91 => ?_) (fun ht91 => ?_) | refine T.cond _ rfl (fun ht91 => ?_) (fun ht91 => ?_)
    ·refine T.skip ?_
     refine TQ.then_n ?_
     refine T.seq ?_
     refine T.block ?_
     refine T.seq ?_
     refine T.region ?_
     refine TL.move hF rfl rfl ?_
     refine TL.move hF rfl rfl ?_
     refine TL.move hF rfl rfl ?_
     refine TL.sub hF rfl rfl (by omega) (by omega) rfl ?_
     refine TL.move hF rfl rfl ?_
     have hlt1 : (i : Int) < partsS q := by simpa using ht91
     have hBd1 : Bd (d1 + 1) = 1 + 3 * Bd d1 := rfl
     have hdd : (((d : Nat) : Int) - 1) = (d1 : Nat) := by omega
     rw [hdd]
     refine TL.call hF (IH d1 att _ hd1 (by omega) (by omega)) rfl rfl ?_
     rintro _ _ ⟨x, at2, segs, rfl, hxt, hxr, hxs, hxd, hxa1, hxa2, rfl⟩
     refine TL.alloc hF rfl (fun b15 => ?_)
     refine TL.storeAs hF [.int .i64 x.op, .int .i64 x.n, .slice x.a x.l.length x.c, .int .i64 at2] [.int .i64 x.op, .int .i64 x.n, .slice x.a x.l.length x.c, .int .i64 at2] 0 (cs := [.int .i64 0, .int .i64 0, .slice none 0 0, .int .i64 0]) rfl rfl rfl rfl (by simp [Value.oneCell']) (Nat.le_refl 4) rfl ?_
     refine TL.nil ?_
     refine TQ.then_n ?_
     refine T.hperm ([(b11, Obj.cells #[.int .i64 q, .int .i64 N, .slice la l.length lc] 72 (0, 0))] :: lg :: [(b15, Obj.cells [.int .i64 x.op, .int .i64 x.n, .slice x.a x.l.length x.c, .int .i64 at2].toArray 78 (0, 0))] :: (segs ++ (HH ++ ([(b42, Obj.cells #[.int .i64 2, .int .i64 2, .int .i64 3, .int .i64 3, .int .i64 4, .int .i64 5, .int .i64 6, .int .i64 6, .int .i64 6] 3 (0, 0))] :: [(b8, Obj.cells #[.int .i64 0, .int .i64 0, .slice none 0 0, .int .i64 0] 78 (0, 0))] :: η)))) (perm_cnt fun f => by simp only [List.set_cons_zero, List.map_append, List.map_cons, List.sum_append, List.sum_cons]; omega) ?_
     refine T.drawH 10 mixed ?_
     refine DH.pure (i := 0) [(11, _, none)] rfl rfl rfl rfl ⟨⟨rfl, by kernel_rfl⟩, trivial⟩ (fun _ ext => TL.fieldAddr hF rfl rfl TL.fin) ?_
     refine DH.read (i := 1) [(100, _, some 0)] rfl rfl rfl rfl ⟨⟨rfl, rfl, rfl⟩, trivial⟩ (fun ext => TL.load hF rfl (own_mem (b := b11) (cs := #[.int .i64 q, .int .i64 N, .slice la l.length lc]) (e := 72) (fz := (0, 0)) (by simp) rfl) rfl TL.fin) ?_
     refine DH.pure (i := 2) [(15, _, none)] rfl rfl rfl rfl ⟨⟨rfl, by kernel_rfl⟩, trivial⟩ (fun _ ext => TL.fieldAddr hF rfl rfl TL.fin) ?_
     refine DH.read (i := 3) [(102, _, some 2)] rfl rfl rfl rfl ⟨⟨rfl, rfl, rfl⟩, trivial⟩ (fun ext => TL.loadA hF (teC x) rfl rfl (own_listM4 (b := b15) (e := 78) (at' := at2) (by simp)) rfl TL.fin) ?_
     refine DH.pure (i := 6) [(15, _, none)] rfl rfl rfl rfl ⟨⟨rfl, by kernel_rfl⟩, trivial⟩ (fun _ ext => TL.fieldAddr hF rfl rfl TL.fin) ?_
     refine DH.read (i := 7) [(106, _, some 6)] rfl rfl rfl rfl ⟨⟨rfl, rfl, rfl⟩, trivial⟩ (fun ext => TL.load hF rfl (own_mem (b := b15) (cs := [.int .i64 x.op, .int .i64 x.n, .slice x.a x.l.length x.c, .int .i64 at2].toArray) (e := 78) (fz := (0, 0)) (by simp) rfl) rfl TL.fin) ?_
     refine DH.k1 (by kernel_rfl) (by kernel_rfl) (by kernel_rfl) (by kernel_rfl) (HBK.mk (h := 4) [1, 7] [(103, _, some 3)] rfl rfl rfl ⟨⟨rfl, rfl, rfl⟩, trivial⟩ (by kernel_rfl) (fun ext => ?_))
     refine TL.buildSlice hF rfl (cs := (teC x).toArray) (e := 72) (fun w => by kernel_rfl) rfl (fun bq => ?_)
     refine TL.finK ⟨⟨_, rfl, _, _, [(100, _, some 0)], rfl, rfl, ⟨⟨rfl, rfl, rfl⟩, trivial⟩, fun ext => TL.load hF rfl (own_mem (b := b11) (cs := #[.int .i64 q, .int .i64 N, .slice la l.length lc]) (e := 72) (fz := (0, 0)) (by simp) rfl) rfl TL.fin⟩, ⟨_, rfl, _, _, [(106, _, some 6)], rfl, rfl, ⟨⟨rfl, rfl, rfl⟩, trivial⟩, fun ext => TL.load hF rfl (own_mem (b := b15) (cs := [.int .i64 x.op, .int .i64 x.n, .slice x.a x.l.length x.c, .int .i64 at2].toArray) (e := 78) (fz := (0, 0)) (by simp) rfl) rfl TL.fin⟩, trivial⟩ ?_
     refine DH.k1 (by kernel_rfl) (by kernel_rfl) (by kernel_rfl) (by kernel_rfl) (HBK.mk (h := 5) [7] [(101, _, some 1), (104, _, some 4)] rfl rfl rfl ⟨⟨rfl, rfl, rfl⟩, ⟨rfl, rfl, rfl⟩, trivial⟩ (by kernel_rfl) (fun ext => ?_))
     refine TL.append hF 2 rfl rfl rfl ho (row_own (cs := teC x) (e := 72) (by simp)).src rfl rfl (teC1 _) (by omega) (by omega) rfl (fun pa pc pg ph => ?_)
     rw [flat_snoc] at ph
     refine TL.finK ⟨⟨_, rfl, _, _, [(106, _, some 6)], rfl, rfl, ⟨⟨rfl, rfl, rfl⟩, trivial⟩, fun ext => TL.load hF rfl (own_mem (b := b15) (cs := [.int .i64 x.op, .int .i64 x.n, .slice x.a x.l.length x.c, .int .i64 at2].toArray) (e := 78) (fz := (0, 0)) (by simp) rfl) rfl TL.fin⟩, trivial⟩ ?_
     refine DH.pure (i := 8) [(11, _, none)] rfl rfl rfl rfl ⟨⟨rfl, by kernel_rfl⟩, trivial⟩ (fun _ ext => TL.fieldAddr hF rfl rfl TL.fin) ?_
     refine DH.k1 (by kernel_rfl) (by kernel_rfl) (by kernel_rfl) (by kernel_rfl) (HBK.mk (h := 9) [7] [(108, _, some 8), (105, _, some 5)] rfl rfl rfl ⟨⟨rfl, rfl, rfl⟩, ⟨rfl, rfl, rfl⟩, trivial⟩ (by kernel_rfl) (fun ext => ?_))
     refine TL.storeI hF 1 rfl rfl rfl rfl (by simp) ?_
     refine TL.finKN ⟨⟨_, rfl, _, _, [(106, _, some 6)], rfl, rfl, ⟨⟨rfl, rfl, rfl⟩, trivial⟩, fun ext => TL.load hF rfl (own_mem (b := b15) (cs := [.int .i64 x.op, .int .i64 x.n, .slice x.a x.l.length x.c, .int .i64 at2].toArray) (e := 78) (fz := (0, 0)) (by simp) rfl) rfl TL.fin⟩, trivial⟩ ?_
     refine DH.done [(108, _), (105, _), (104, _), (107, _), (106, _), (103, _), (102, _), (101, _), (100, _)] [_] (by kernel_rfl) (by kernel_rfl) (by kernel_rfl) (by kernel_rfl) rfl rfl ?_
     refine TL.assign hF rfl rfl ?_
     refine TL.nil ?_
     refine TQ.block_n ?_
     refine TQ.then_n ?_
     refine T.region ?_
     refine TL.move hF rfl rfl ?_
     refine TL.add hF rfl rfl (by omega) (by omega) rfl ?_
     refine TL.assign hF rfl rfl ?_
     refine TL.nil ?_
     have hlx : (l ++ [x]).length = l.length + 1 := by simp
     have hi1 : i + 1 ≤ 3 := by omega
     have hmul : (i + 1) * Bd d1 = i * Bd d1 + Bd d1 := by rw [Nat.add_mul, Nat.one_mul]
     refine TQ.heap (η' := [(bq, Obj.cells (teC x).toArray 72 (0, 0))] :: [(b11, Obj.cells #[.int .i64 q, .int .i64 N, .slice pa (l.length + 1) pc] 72 (0, 0))] :: pg :: [(b15, Obj.cells [.int .i64 x.op, .int .i64 x.n, .slice x.a x.l.length x.c, .int .i64 at2].toArray 78 (0, 0))] :: (segs ++ (HH ++ ([(b42, Obj.cells #[.int .i64 2, .int .i64 2, .int .i64 3, .int .i64 3, .int .i64 4, .int .i64 5, .int .i64 6, .int .i64 6, .int .i64 6] 3 (0, 0))] :: [(b8, Obj.cells #[.int .i64 0, .int .i64 0, .slice none 0 0, .int .i64 0] 78 (0, 0))] :: η)))) rfl ?_
     refine TQ.hperm ([(bq, Obj.cells (teC x).toArray 72 (0, 0))] :: [(b15, Obj.cells [.int .i64 x.op, .int .i64 x.n, .slice x.a x.l.length x.c, .int .i64 at2].toArray 78 (0, 0))] :: [(b11, Obj.cells #[.int .i64 q, .int .i64 N, .slice pa (l.length + 1) pc] 72 (0, 0))] :: pg :: ((segs ++ HH) ++ ([(b42, Obj.cells #[.int .i64 2, .int .i64 2, .int .i64 3, .int .i64 3, .int .i64 4, .int .i64 5, .int .i64 6, .int .i64 6, .int .i64 6] 3 (0, 0))] :: [(b8, Obj.cells #[.int .i64 0, .int .i64 0, .slice none 0 0, .int .i64 0] 78 (0, 0))] :: η))) (perm_cnt fun f => by simp only [List.map_append, List.map_cons, List.sum_append, List.sum_cons, List.append_assoc]; omega) ?_
     refine TQ.pop (TQ.pop ?_)
     refine TQ.round ⟨i + 1, l ++ [x], pa, pc, pg, at2, segs ++ HH⟩ ⟨hi1, by show ((i + 1 : Nat) : Int) ≤ _; omega, by dsimp only; omega, fun y hy => ?_, by dsimp only; rw [szs_snoc]; omega, by dsimp only; omega, ?_, by dsimp only; rw [hlx]; exact ph⟩ (by dsimp only; omega) ⟨rfl, rfl, rfl, rfl, rfl, rfl, rfl, trivial⟩ (by dsimp only; rw [hlx])
     ·rcases List.mem_append.1 hy with hy | hy
      ·obtain ⟨h1, h2, h3⟩ := hlt y hy
       exact ⟨h1.up (by intro s hs; simp [hs]), h2, h3⟩
      ·rw [List.mem_singleton.1 hy]; exact ⟨hxt.up (by intro s hs; simp [hs]), hxr, hxd⟩
     ·dsimp only
      have : (((i + 1) * Bd d1 : Nat) : Int) = ((i * Bd d1 : Nat) : Int) + (Bd d1 : Nat) := by omega
      have e1 : ((i + 1 : Nat) : Int) * (Bd d1 : Nat) = (((i + 1) * Bd d1 : Nat) : Int) := by push_cast; rfl
      have e2 : ((i : Nat) : Int) * (Bd d1 : Nat) = ((i * Bd d1 : Nat) : Int) := by push_cast; rfl
      rw [e1, this, ← e2]; omega
    ·refine T.exit ?_
     refine TQ.then_x ?_
     refine TQ.then_x ?_
     refine TQ.block_x ?_
     refine TQ.then_n ?_
     refine T.seq ?_
     refine T.region ?_
     refine TL.loadA hF [.int .i64 q, .int .i64 N, .slice la l.length lc] rfl rfl (own_list (i := 0) (cs := [.int .i64 q, .int .i64 N, .slice la l.length lc]) rfl) rfl ?_
     refine TL.move hF rfl rfl ?_
     refine TL.build hF rfl (r := .agg #[.int .i64 q, .int .i64 N, .slice la l.length lc, .int .i64 (att)]) (fun w => by kernel_rfl) rfl ?_
     refine TL.hperm ([(b8, Obj.cells #[.int .i64 0, .int .i64 0, .slice none 0 0, .int .i64 0] 78 (0, 0))] :: (lg :: (HH ++ ([(b11, Obj.cells #[.int .i64 q, .int .i64 N, .slice la l.length lc] 72 (0, 0))] :: [(b42, Obj.cells #[.int .i64 2, .int .i64 2, .int .i64 3, .int .i64 3, .int .i64 4, .int .i64 5, .int .i64 6, .int .i64 6, .int .i64 6] 3 (0, 0))] :: η)))) (perm_cnt fun f => by simp only [List.map_append, List.map_cons, List.sum_append, List.sum_cons]; omega) ?_
     refine TL.storeAs hF [.int .i64 q, .int .i64 N, .slice la l.length lc, .int .i64 att] [.int .i64 q, .int .i64 N, .slice la l.length lc, .int .i64 att] 0 (cs := [.int .i64 0, .int .i64 0, .slice none 0 0, .int .i64 0]) rfl rfl rfl rfl (by simp [Value.oneCell']) (Nat.le_refl 4) rfl ?_
     refine TL.nil ?_
     refine TQ.then_n ?_
     refine T.ret ?_
     have hin : ¬ (i : Int) < partsS q := by simpa using ht91
     refine TQ.retC [.int .i64 q, .int .i64 N, .slice la l.length lc, .int .i64 att] ((lg :: HH) ++ η) rfl rfl rfl (own_list (i := 0) (cs := [.int .i64 q, .int .i64 N, .slice la l.length lc, .int .i64 att]) rfl) (List.Sublist.cons _ (List.Sublist.cons_cons _ ((List.Sublist.refl HH).append (List.Sublist.cons _ (List.sublist_cons_self _ _))))) ?_
     have hBd1 : Bd (d1 + 1) = 1 + 3 * Bd d1 := rfl
     have e2 : ((i : Nat) : Int) * (Bd d1 : Nat) = ((i * Bd d1 : Nat) : Int) := by push_cast; rfl
     rw [e2] at hat2
     refine ⟨(TE.nd q N la lc l), att, lg :: HH, rfl, tr_iff.2 ⟨⟨OSl.row ho (by simp), osl_cap ho, by show l.length < _; omega⟩, fun y hy => ((hlt y hy).1).up (by intro s hs; simp [hs])⟩, ?_, ?_, ?_, hat1, by rw [hd1, hBd1]; omega, rfl⟩
     ·exact right_iff.2 ⟨by show (l.length : Int) = partsS q; omega, hN, fun y hy => (hlt y hy).2.1⟩
     ·rw [size_eq]; show 1 + szs l ≤ Bd d; rw [hd1, hBd1]; omega
     ·rw [hd1]; exact dep_iff.2 fun y hy => by have := (hlt y hy).2.2; omega
theorem drafted_fn {a : Option Addr} {xs : List Int} {c : Nat} {funs : Int} (hx : Row S w0 [] a (ints xs)) (hxl : xs.length < 9223372036854775808) (hxb : ∀ x ∈ xs, I64 x) (hf1 : 1 ≤ funs) (hf3 : funs ≤ 8) : ∀ (d : Nat), d ≤ 3 → ∀ (at0' : Int) (η : Heap), 0 ≤ at0' → at0' ≤ 4611686018427387904 + 40 * (3 - (d : Int)) →
  Rt Tryd.prog 34 [.slice a xs.length c, .int .i64 at0', .int .i64 (d : Nat), .int .i64 funs].toArray S w0 η (fun v η' => ∃ x at' segs, v = .agg #[.int .i64 x.op, .int .i64 x.n, .slice x.a x.l.length x.c, .int .i64 at'] ∧ Tr S w0 segs x ∧ rightE funs x.ex = true ∧ sizeE x.ex ≤ Bd d ∧ depE x.ex ≤ d + 2 ∧ at0' ≤ at' ∧ at' ≤ at0' + Bd d ∧ η' = segs ++ η)
 | 0, h => fun at0' η h0 h1 => drafted_step hx hxl hxb hf1 hf3 0 h (fun d' _ _ h2 => by omega) at0' η h0 h1
 | d + 1, h => fun at0' η h0 h1 => drafted_step hx hxl hxb hf1 hf3 (d + 1) h (fun d' a2 η2 h2 h3 h4 => by
   obtain rfl : d = d' := by omega
   exact drafted_fn hx hxl hxb hf1 hf3 d (by omega) a2 η2 h3 h4) at0' η h0 h1
end Go.Proofs.YtdiacobmhkmljaaDoor
/- What numbers make: functions, cells, a call; rounds of edits. -/
namespace Go.Proofs.YtdiacobmhkmljaaDoor
open Go.Sl
variable {S : Nat → Prop} {w0 : World} {η : Heap}
structure MS where
 i : Nat
 l : List TE
 a : Option Addr
 c : Nat
 g : Seg
 at' : Int
 H : Heap
structure CS where
 j : Nat
 l : List Int
 a : Option Addr
 c : Nat
 g : Seg
set_option maxHeartbeats 8000000 in
theorem Made_fn {a : Option Addr} {xs : List Int} {c : Nat} (hx : Row S w0 [] a (ints xs)) (hxl : xs.length < 9223372036854775808) (hxb : ∀ x ∈ xs, I64 x) :
  Rt Tryd.prog 9 [.slice a xs.length c].toArray S w0 η (fun v η' => ∃ fa fc fl ca cc cells top segs, v = .tuple #[.slice fa fl.length fc, .slice ca cells.length cc, .agg (kC top).toArray] ∧ Fs S w0 segs fa fl ∧ Row S w0 segs ca (ints cells) ∧ askedS (fl.map TE.ex) cells top = 0 ∧ cells.length ≤ 8 ∧ η' = segs ++ η) := by
 have hn := nth_i64 hxb 0 
 have hF := open_wide
 refine Rt.of (fn := Tryd.f9) Tryd.func9 rfl rfl ?_
 refine T.seq ?_
 refine T.region ?_
 refine TL.assign hF rfl rfl ?_
 refine TL.assign hF rfl rfl ?_
 refine TL.alloc hF rfl (fun b4 => ?_)
 refine TL.nil ?_
 refine TQ.then_n ?_
 refine T.seq ?_
 refine T.region ?_
 refine TL.move hF rfl rfl ?_
 refine TL.callV hF (Nth_fn 0 hx.ro (by omega)) rfl rfl ?_
 refine TL.assign hF rfl rfl ?_
 refine TL.nil ?_
 refine TQ.then_n ?_
 refine T.seq ?_
 refine T.region ?_
 refine TL.move hF rfl rfl ?_
 refine TL.callV hF (Turn_fn (nthI xs 0) (m := 3) (by decide)) rfl rfl ?_
 have hmany := turnI_range (nthI xs 0) (m := 3) (by decide)
 refine TL.add hF rfl rfl (by omega) (by omega) rfl ?_
 refine TL.buildSlice hF rfl (cs := #[]) (e := 72) (fun w => by kernel_rfl) rfl (fun b18 => ?_)
 refine TL.buildSlice hF rfl (cs := #[]) (e := 3) (fun w => by kernel_rfl) rfl (fun b19 => ?_)
 refine TL.assign hF rfl rfl ?_
 refine TL.assign hF rfl rfl ?_
 refine TL.assign hF rfl rfl ?_
 refine TL.assign hF rfl rfl ?_
 refine TL.nil ?_
 refine TQ.then_n ?_
 refine T.seq ?_
 refine T.seq ?_
 refine T.region ?_
 refine TL.assign hF rfl rfl ?_
 refine TL.nil ?_
 refine TQ.then_n ?_
 refine T.block ?_
 refine T.pick [1, 0] [_, _] rfl rfl rfl ?_
 refine T.loop (ι := MS) (fun s => s.i ≤ 3 ∧ (s.i : Int) ≤ (1 + turnI (nthI xs 0) 3) ∧ s.l.length = s.i ∧ (∀ x ∈ s.l, Tr S w0 s.H x ∧ rightE (1 + turnI (nthI xs 0) 3) x.ex = true ∧ depE x.ex ≤ 5 ∧ sizeE x.ex ≤ 40) ∧ 1 ≤ s.at' ∧ s.at' ≤ 1 + s.i * 40 ∧ OSl 72 3 (.slice s.a s.l.length s.c) s.l.length (s.l.flatMap teC) s.g) (fun s => [(0, .slice a xs.length c), (2, .slice none 0 0), (3, .slice none 0 0), (4, ptr b4), (5, .int .i64 (nthI xs 0)), (6, .int .i64 (1 + turnI (nthI xs 0) 3)), (7, .slice s.a s.l.length s.c), (8, .slice (some ⟨b19, 0, none⟩) 0 0), (9, .int .i64 s.at'), (10, .int .i64 (s.i : Int))]) (fun s => s.g :: (s.H ++ ([(b19, Obj.cells #[] 3 (0, 0))] :: [(b4, Obj.cells #[.int .i64 0, .int .i64 0] 25 (0, 0))] :: η))) (fun s => 3 - s.i) ⟨0, [], some ⟨b18, 0, none⟩, 0, [(b18, Obj.cells #[] 72 (0, 0))], 1, []⟩ ⟨Nat.zero_le 3, by show (0 : Int) ≤ _; omega, rfl, by simp, by show (1 : Int) ≤ 1; omega, by show (1 : Int) ≤ 1 + ((0 : Nat) : Int) * 40; omega, osl_empty⟩ ⟨rfl, rfl, rfl, rfl, rfl, rfl, rfl, rfl, rfl, rfl, trivial⟩ rfl ?_
 rintro ⟨i, l, la, lc, lg, att, HH⟩ ⟨hi3, hip, hll, hlt, hat1, hat2, ho⟩
 dsimp only at hi3 hip hll hlt hat1 hat2 ho
 refine T.seq ?_
 refine T.seq ?_
 refine T.region ?_
 refine TL.move hF rfl rfl ?_
 refine TL.move hF rfl rfl ?_
 refine TL.bin hF rfl rfl rfl rfl ?_
 refine TL.nil ?_
 refine TQ.then_n ?_
 first | refine T.cond_d rfl (fun ht22 => ?_) (fun ht22 => ?_) | refine T.cond _ rfl (fun ht22 => ?_) (fun ht22 => ?_)
 ·refine T.skip ?_
  refine TQ.then_n ?_
  refine T.seq ?_
  refine T.block ?_
  refine T.seq ?_
  refine T.region ?_
  refine TL.move hF rfl rfl ?_
  refine TL.move hF rfl rfl ?_
  refine TL.move hF rfl rfl ?_
  have hlt1 : (i : Int) < (1 + turnI (nthI xs 0) 3) := ht22
  refine TL.call hF (drafted_fn hx hxl hxb (by omega) (by omega) 3 (Nat.le_refl 3) att _ (by omega) (by omega)) rfl rfl ?_
  rintro _ _ ⟨x, at2, segs, rfl, hxt, hxr, hxs, hxd, hxa1, hxa2, rfl⟩
  have hB3 : Bd 3 = 40 := rfl
  rw [hB3] at hxs hxa2
  refine TL.alloc hF rfl (fun b11 => ?_)
  refine TL.storeAs hF [.int .i64 x.op, .int .i64 x.n, .slice x.a x.l.length x.c, .int .i64 at2] [.int .i64 x.op, .int .i64 x.n, .slice x.a x.l.length x.c, .int .i64 at2] 0 (cs := [.int .i64 0, .int .i64 0, .slice none 0 0, .int .i64 0]) rfl rfl rfl rfl (by simp [Value.oneCell']) (Nat.le_refl 4) rfl ?_
  refine TL.nil ?_
  refine TQ.then_n ?_
  refine T.hperm (lg :: [(b11, Obj.cells [.int .i64 x.op, .int .i64 x.n, .slice x.a x.l.length x.c, .int .i64 at2].toArray 78 (0, 0))] :: (segs ++ (HH ++ ([(b19, Obj.cells #[] 3 (0, 0))] :: [(b4, Obj.cells #[.int .i64 0, .int .i64 0] 25 (0, 0))] :: η)))) (perm_cnt fun f => by simp only [List.set_cons_zero, List.map_append, List.map_cons, List.sum_append, List.sum_cons]; omega) ?_
  refine T.drawH 8 mixed ?_
  refine DH.pure (i := 0) [(7, _, none)] rfl rfl rfl rfl ⟨⟨rfl, by kernel_rfl⟩, trivial⟩ (fun _ ext => TL.move hF rfl rfl TL.fin) ?_
  refine DH.pure (i := 1) [(11, _, none)] rfl rfl rfl rfl ⟨⟨rfl, by kernel_rfl⟩, trivial⟩ (fun _ ext => TL.fieldAddr hF rfl rfl TL.fin) ?_
  refine DH.read (i := 2) [(30, _, some 1)] rfl rfl rfl rfl ⟨⟨rfl, rfl, rfl⟩, trivial⟩ (fun ext => TL.loadA hF (teC x) rfl rfl (own_listM4 (b := b11) (e := 78) (at' := at2) (by simp)) rfl TL.fin) ?_
  refine DH.pure (i := 5) [(11, _, none)] rfl rfl rfl rfl ⟨⟨rfl, by kernel_rfl⟩, trivial⟩ (fun _ ext => TL.fieldAddr hF rfl rfl TL.fin) ?_
  refine DH.read (i := 6) [(34, _, some 5)] rfl rfl rfl rfl ⟨⟨rfl, rfl, rfl⟩, trivial⟩ (fun ext => TL.load hF rfl (own_mem (b := b11) (cs := [.int .i64 x.op, .int .i64 x.n, .slice x.a x.l.length x.c, .int .i64 at2].toArray) (e := 78) (fz := (0, 0)) (by simp) rfl) rfl TL.fin) ?_
  refine DH.k1 (by kernel_rfl) (by kernel_rfl) (by kernel_rfl) (by kernel_rfl) (HBK.mk (h := 3) [6] [(31, _, some 2)] rfl rfl rfl ⟨⟨rfl, rfl, rfl⟩, trivial⟩ (by kernel_rfl) (fun ext => ?_))
  refine TL.buildSlice hF rfl (cs := (teC x).toArray) (e := 72) (fun w => by kernel_rfl) rfl (fun bq => ?_)
  refine TL.finK ⟨⟨_, rfl, _, _, [(34, _, some 5)], rfl, rfl, ⟨⟨rfl, rfl, rfl⟩, trivial⟩, fun ext => TL.load hF rfl (own_mem (b := b11) (cs := [.int .i64 x.op, .int .i64 x.n, .slice x.a x.l.length x.c, .int .i64 at2].toArray) (e := 78) (fz := (0, 0)) (by simp) rfl) rfl TL.fin⟩, trivial⟩ ?_
  refine DH.k1 (by kernel_rfl) (by kernel_rfl) (by kernel_rfl) (by kernel_rfl) (HBK.mk (h := 4) [6] [(29, _, some 0), (32, _, some 3)] rfl rfl rfl ⟨⟨rfl, rfl, rfl⟩, ⟨rfl, rfl, rfl⟩, trivial⟩ (by kernel_rfl) (fun ext => ?_))
  refine TL.append hF 1 rfl rfl rfl ho (row_own (cs := teC x) (e := 72) (by simp)).src rfl rfl (teC1 _) (by omega) (by omega) rfl (fun pa pc pg ph => ?_)
  rw [flat_snoc] at ph
  refine TL.finK ⟨⟨_, rfl, _, _, [(34, _, some 5)], rfl, rfl, ⟨⟨rfl, rfl, rfl⟩, trivial⟩, fun ext => TL.load hF rfl (own_mem (b := b11) (cs := [.int .i64 x.op, .int .i64 x.n, .slice x.a x.l.length x.c, .int .i64 at2].toArray) (e := 78) (fz := (0, 0)) (by simp) rfl) rfl TL.fin⟩, trivial⟩ ?_
  refine DH.pure (i := 7) [(33, _, some 4)] rfl rfl rfl rfl ⟨⟨rfl, rfl, rfl⟩, trivial⟩ (fun _ ext => TL.assign hF rfl rfl TL.fin) ?_
  refine DH.done [(7, _), (33, _), (32, _), (35, _), (34, _), (31, _), (30, _), (29, _)] [_] (by kernel_rfl) (by kernel_rfl) (by kernel_rfl) (by kernel_rfl) rfl rfl ?_
  refine TL.assign hF rfl rfl ?_
  refine TL.nil ?_
  refine TQ.block_n ?_
  refine TQ.then_n ?_
  refine T.region ?_
  refine TL.move hF rfl rfl ?_
  refine TL.add hF rfl rfl (by omega) (by omega) rfl ?_
  refine TL.assign hF rfl rfl ?_
  refine TL.nil ?_
  have hlx : (l ++ [x]).length = l.length + 1 := by simp
  refine TQ.heap (η' := [(bq, Obj.cells (teC x).toArray 72 (0, 0))] :: pg :: [(b11, Obj.cells [.int .i64 x.op, .int .i64 x.n, .slice x.a x.l.length x.c, .int .i64 at2].toArray 78 (0, 0))] :: (segs ++ (HH ++ ([(b19, Obj.cells #[] 3 (0, 0))] :: [(b4, Obj.cells #[.int .i64 0, .int .i64 0] 25 (0, 0))] :: η)))) rfl ?_
  refine TQ.hperm ([(bq, Obj.cells (teC x).toArray 72 (0, 0))] :: [(b11, Obj.cells [.int .i64 x.op, .int .i64 x.n, .slice x.a x.l.length x.c, .int .i64 at2].toArray 78 (0, 0))] :: pg :: ((segs ++ HH) ++ ([(b19, Obj.cells #[] 3 (0, 0))] :: [(b4, Obj.cells #[.int .i64 0, .int .i64 0] 25 (0, 0))] :: η))) (perm_cnt fun f => by simp only [List.map_append, List.map_cons, List.sum_append, List.sum_cons]; omega) ?_
  refine TQ.pop (TQ.pop ?_)
  refine TQ.round ⟨i + 1, l ++ [x], pa, pc, pg, at2, segs ++ HH⟩ ⟨by dsimp only; omega, by show ((i + 1 : Nat) : Int) ≤ _; omega, by dsimp only; omega, fun y hy => ?_, by dsimp only; omega, by dsimp only; omega, by dsimp only; rw [hlx]; exact ph⟩ (by dsimp only; omega) ⟨rfl, rfl, rfl, rfl, rfl, rfl, by rw [hlx]; rfl, rfl, rfl, rfl, trivial⟩ rfl
  rcases List.mem_append.1 hy with hy | hy
  ·obtain ⟨h1, h2⟩ := hlt y hy
   exact ⟨h1.up (by intro s hs; simp [hs]), h2⟩
  ·rw [List.mem_singleton.1 hy]; exact ⟨hxt.up (by intro s hs; simp [hs]), hxr, hxd, hxs⟩
 ·refine T.exit ?_
  refine TQ.then_x ?_
  refine TQ.then_x ?_
  refine TQ.block_x ?_
  refine TQ.then_n ?_
  refine T.seq ?_
  refine T.seq ?_
  refine T.region ?_
  refine TL.assign hF rfl rfl ?_
  refine TL.nil ?_
  refine TQ.then_n ?_
  refine T.block ?_
  have hin : (i : Int) = (1 + turnI (nthI xs 0) 3) := by have h : ¬ (i : Int) < (1 + turnI (nthI xs 0) 3) := ht22; omega
  have h8 := turnI_range (Int.tdiv (nthI xs 0) 3) (m := 8) (by decide)
  refine T.hperm ([(b19, Obj.cells #[] 3 (0, 0))] :: (lg :: (HH ++ ([(b4, Obj.cells #[.int .i64 0, .int .i64 0] 25 (0, 0))] :: η)))) (perm_cnt fun f => by simp only [List.map_append, List.map_cons, List.sum_append, List.sum_cons]; omega) ?_
  refine T.loop (ι := CS) (fun s => s.j ≤ 8 ∧ (s.j : Int) ≤ 1 + turnI (Int.tdiv (nthI xs 0) 3) 8 ∧ s.l.length = s.j ∧ (∀ n ∈ s.l, isW n = true) ∧ OSl 3 1 (.slice s.a s.l.length s.c) s.l.length (ints s.l) s.g) (fun s => [(0, .slice a xs.length c), (2, .slice none 0 0), (3, .slice none 0 0), (4, ptr b4), (5, .int .i64 (nthI xs 0)), (6, .int .i64 (1 + turnI (nthI xs 0) 3)), (7, .slice la l.length lc), (8, .slice s.a s.l.length s.c), (9, .int .i64 att), (12, .int .i64 (s.j : Int))]) (fun s => s.g :: (lg :: (HH ++ ([(b4, Obj.cells #[.int .i64 0, .int .i64 0] 25 (0, 0))] :: η)))) (fun s => 8 - s.j) ⟨0, [], some ⟨b19, 0, none⟩, 0, [(b19, Obj.cells #[] 3 (0, 0))]⟩ ⟨Nat.zero_le 8, by show (0 : Int) ≤ _; omega, rfl, by simp, osl_empty⟩ ⟨rfl, rfl, rfl, rfl, rfl, rfl, rfl, rfl, rfl, rfl, trivial⟩ rfl ?_
  rintro ⟨j, cl, ca, cc, cg⟩ ⟨hj8, hjp, hcl, hcw, hco⟩
  dsimp only at hj8 hjp hcl hcw hco
  refine T.seq ?_
  refine T.seq ?_
  refine T.region ?_
  refine TL.move hF rfl rfl ?_
  refine TL.move hF rfl rfl ?_
  refine TL.quoI hF rfl rfl (by decide) (wrap_i64 (tdiv_i64 hn (by decide)).1 (tdiv_i64 hn (by decide)).2) rfl ?_
  refine TL.callV hF (Turn_fn (Int.tdiv (nthI xs 0) 3) (m := 8) (by decide)) rfl rfl ?_
  refine TL.add hF rfl rfl (by omega) (by omega) rfl ?_
  refine TL.bin hF rfl rfl rfl rfl ?_
  refine TL.nil ?_
  refine TQ.then_n ?_
  first | refine T.cond_d rfl (fun ht41 => ?_) (fun ht41 => ?_) | refine T.cond _ rfl (fun ht41 => ?_) (fun ht41 => ?_)
  ·refine T.skip ?_
   refine TQ.then_n ?_
   refine T.seq ?_
   refine T.block ?_
   refine T.region ?_
   refine TL.move hF rfl rfl ?_
   refine TL.move hF rfl rfl ?_
   refine TL.move hF rfl rfl ?_
   refine TL.move hF rfl rfl ?_
   refine TL.add hF rfl rfl (by omega) (by omega) rfl ?_
   refine TL.callV hF (Nth_fn (att + (j : Int)) hx.ro (by omega)) rfl rfl ?_
   refine TL.callV hF (Turn_fn (nthI xs (att + (j : Int))) (m := 7) (by decide)) rfl rfl ?_
   have h7 := turnI_range (nthI xs (att + (j : Int))) (m := 7) (by decide)
   refine TL.sub hF rfl rfl (by omega) (by omega) rfl ?_
   refine TL.buildSlice hF rfl (cs := #[.int .i64 (turnI (nthI xs (att + (j : Int))) 7 - 1)]) (e := 3) (fun w => by kernel_rfl) rfl (fun bq => ?_)
   refine TL.append hF 1 rfl rfl rfl hco (row_own (cs := [.int .i64 (turnI (nthI xs (att + (j : Int))) 7 - 1)]) (e := 3) (by simp)).src rfl rfl (by simp [Value.oneCell']) (by omega) (by omega) rfl (fun pa pc pg ph => ?_)
   rw [show ints cl ++ [.int .i64 (turnI (nthI xs (att + (j : Int))) 7 - 1)] = ints (cl ++ [turnI (nthI xs (att + (j : Int))) 7 - 1]) by simp [ints]] at ph
   refine TL.assign hF rfl rfl ?_
   refine TL.nil ?_
   refine TQ.block_n ?_
   refine TQ.then_n ?_
   refine T.region ?_
   refine TL.move hF rfl rfl ?_
   refine TL.add hF rfl rfl (by omega) (by omega) rfl ?_
   refine TL.assign hF rfl rfl ?_
   refine TL.nil ?_
   have hjl : (j : Int) < 1 + turnI (Int.tdiv (nthI xs 0) 3) 8 := by simpa using ht41
   have hlx : (cl ++ [turnI (nthI xs (att + (j : Int))) 7 - 1]).length = cl.length + 1 := by simp
   refine TQ.pop ?_
   refine TQ.round ⟨j + 1, cl ++ [turnI (nthI xs (att + (j : Int))) 7 - 1], pa, pc, pg⟩ ⟨by dsimp only; omega, by show ((j + 1 : Nat) : Int) ≤ _; omega, by dsimp only; omega, fun n hn => ?_, by dsimp only; rw [hlx]; exact ph⟩ (by dsimp only; omega) ⟨rfl, rfl, rfl, rfl, rfl, rfl, rfl, by rw [hlx]; rfl, rfl, rfl, trivial⟩ rfl
   rcases List.mem_append.1 hn with hn | hn
   ·exact hcw n hn
   ·rw [List.mem_singleton.1 hn, isW_iff]; omega
  ·refine T.exit ?_
   refine TQ.then_x ?_
   refine TQ.then_x ?_
   refine TQ.block_x ?_
   refine TQ.then_n ?_
   refine T.seq ?_
   refine T.region ?_
   refine TL.move hF rfl rfl ?_
   refine TL.move hF rfl rfl ?_
   refine TL.move hF rfl rfl ?_
   refine TL.quoI hF rfl rfl (by decide) (wrap_i64 (tdiv_i64 hn (by decide)).1 (tdiv_i64 hn (by decide)).2) rfl ?_
   refine TL.move hF rfl rfl ?_
   refine TL.callV hF (Turn_fn (Int.tdiv (nthI xs 0) 24) (m := (1 + turnI (nthI xs 0) 3)) (by omega)) rfl rfl ?_
   refine TL.move hF rfl rfl ?_
   refine TL.quoI hF rfl rfl (by decide) (wrap_i64 (tdiv_i64 hn (by decide)).1 (tdiv_i64 hn (by decide)).2) rfl ?_
   refine TL.callV hF (Turn_fn (Int.tdiv (nthI xs 0) 100) (m := 10) (by decide)) rfl rfl ?_
   refine TL.build hF rfl (r := kV (turnI (Int.tdiv (nthI xs 0) 24) (1 + turnI (nthI xs 0) 3), turnI (Int.tdiv (nthI xs 0) 100) 10)) (fun w => by kernel_rfl) rfl ?_
   refine TL.assign hF rfl rfl ?_
   refine TL.assign hF rfl rfl ?_
   refine TL.hperm ([(b4, Obj.cells #[.int .i64 0, .int .i64 0] 25 (0, 0))] :: cg :: lg :: (HH ++ η)) (perm_cnt fun f => by simp only [List.map_append, List.map_cons, List.sum_append, List.sum_cons]; omega) ?_
   refine TL.storeAs hF (kC (turnI (Int.tdiv (nthI xs 0) 24) (1 + turnI (nthI xs 0) 3), turnI (Int.tdiv (nthI xs 0) 100) 10)) (kC (turnI (Int.tdiv (nthI xs 0) 24) (1 + turnI (nthI xs 0) 3), turnI (Int.tdiv (nthI xs 0) 100) 10)) 0 (cs := [.int .i64 0, .int .i64 0]) rfl rfl rfl rfl (kC1 _) (Nat.le_refl 2) rfl ?_
   refine TL.nil ?_
   refine TQ.then_n ?_
   refine T.ret ?_
   have ht24 := turnI_range (Int.tdiv (nthI xs 0) 24) (m := (1 + turnI (nthI xs 0) 3)) (by omega)
   have ht10 := turnI_range (Int.tdiv (nthI xs 0) 100) (m := 10) (by decide)
   have hjn : (j : Int) = 1 + turnI (Int.tdiv (nthI xs 0) 3) 8 := by have h := ht41; simp at h; omega
   refine TQ.retX [.tmp 2, .tmp 3, .cell 4 25] [.slice la l.length lc, .slice ca cl.length cc, .agg (kC (turnI (Int.tdiv (nthI xs 0) 24) (1 + turnI (nthI xs 0) 3), turnI (Int.tdiv (nthI xs 0) 100) 10)).toArray] ((cg :: lg :: HH) ++ η) rfl ⟨rfl, rfl, ResV.agg (kC (turnI (Int.tdiv (nthI xs 0) 24) (1 + turnI (nthI xs 0) 3), turnI (Int.tdiv (nthI xs 0) 100) 10)) rfl rfl (own_list (i := 0) (cs := kC (turnI (Int.tdiv (nthI xs 0) 24) (1 + turnI (nthI xs 0) 3), turnI (Int.tdiv (nthI xs 0) 100) 10)) rfl), trivial⟩ rfl (List.sublist_cons_self _ _) ?_
   refine ⟨la, lc, l, ca, cc, cl, (turnI (Int.tdiv (nthI xs 0) 24) (1 + turnI (nthI xs 0) 3), turnI (Int.tdiv (nthI xs 0) 100) 10), cg :: lg :: HH, rfl, ⟨OSl.row ho (by simp), fun x hx => (hlt x hx).1.up (by intro s hs; simp [hs])⟩, OSl.row hco (by simp), ?_, by omega, rfl⟩
   have hlm : (l.length : Int) = (1 + turnI (nthI xs 0) 3) := by omega
   have hck : checkS (l.map TE.ex) = 0 := by
    unfold checkS
    rw [if_pos]
    refine ⟨by rw [List.length_map]; omega, ?_⟩
    rw [List.all_eq_true]
    intro e he
    obtain ⟨x, hx, rfl⟩ := List.mem_map.1 he
    obtain ⟨_, h2, h3, h4⟩ := hlt x hx
    unfold okE
    rw [List.length_map, hlm, h2, decide_eq_true (by omega), decide_eq_true (by omega)]; rfl
   unfold askedS
   rw [if_pos hck, okCells_iff.2 ⟨by omega, hcw⟩]
   have hto : okTop (l.map TE.ex) (turnI (Int.tdiv (nthI xs 0) 24) (1 + turnI (nthI xs 0) 3), turnI (Int.tdiv (nthI xs 0) 100) 10) = true := by
    unfold okTop
    rw [List.length_map, hlm]
    simp only [Bool.and_eq_true, decide_eq_true_eq]
    omega
   rw [hto]; rfl
structure OS where
 i : Nat
 ps : List EH
 a : Option Addr
 c : Nat
 g : Seg
 H : Heap
structure IS where
 k : Nat
 i : Nat
 l : List (Int × Int)
 a : Option Addr
 c : Nat
 g : Seg
/-- A round that numbers make. -/
def RndOk (m : Nat) (l : List (Int × Int)) : Prop := l.length ≤ 3 ∧ ∀ x ∈ l, okEdit m x = true
theorem ghc1 {α : Type} (ps : List (GH α)) : ∀ v ∈ ps.map ghc, v.oneCell' = true := by
 intro v hv
 obtain ⟨p, _, rfl⟩ := List.mem_map.1 hv
 rfl
theorem tdiv1_i64 {n m : Int} (h : I64 n) (hm : 1 ≤ m) : -9223372036854775808 ≤ Int.tdiv n m ∧ Int.tdiv n m ≤ 9223372036854775807 := by
 rcases Int.lt_or_eq_of_le hm with h1 | h1
 ·exact tdiv_i64 h h1
 ·subst h1; rw [Int.tdiv_one]; exact h
set_option maxHeartbeats 4000000 in
theorem edits_fn {a : Option Addr} {xs : List Int} {c m : Nat} (hx : Row S w0 [] a (ints xs)) (hxl : xs.length < 9223372036854775808) (hxb : ∀ x ∈ xs, I64 x) (hm1 : 1 ≤ m) (hm2 : m ≤ 100) :
  Rt Tryd.prog 10 [.slice a xs.length c, .int .i64 (m : Int)].toArray S w0 η (fun v η' => ∃ oa oc ps segs, v = .slice oa ps.length oc ∧ GL kC S w0 segs oa ps ∧ ps.length ≤ 6 ∧ (∀ p ∈ ps, RndOk m p.2.1) ∧ ps.length ≤ oc ∧ η' = segs ++ η) := by
 have hF := open_wide
 refine Rt.of (fn := Tryd.f10) Tryd.func10 rfl rfl ?_
 refine T.seq ?_
 refine T.region ?_
 refine TL.assign hF rfl rfl ?_
 refine TL.nil ?_
 refine TQ.then_n ?_
 refine T.seq ?_
 refine T.region ?_
 refine TL.buildSlice hF rfl (cs := #[]) (e := 38) (fun w => by kernel_rfl) rfl (fun b10 => ?_)
 refine TL.assign hF rfl rfl ?_
 refine TL.nil ?_
 refine TQ.then_n ?_
 refine T.seq ?_
 refine T.seq ?_
 refine T.region ?_
 refine TL.assign hF rfl rfl ?_
 refine TL.nil ?_
 refine TQ.then_n ?_
 refine T.block ?_
 refine T.loop (ι := OS) (fun s => s.ps.length ≤ 6 ∧ s.i ≤ 4 * s.ps.length ∧ (∀ p ∈ s.ps, RndOk m p.2.1 ∧ Row S w0 s.H p.1 (p.2.1.flatMap kC)) ∧ OSl 38 1 (.slice s.a s.ps.length s.c) s.ps.length (s.ps.map ghc) s.g) (fun s => [(0, .slice a xs.length c), (1, .int .i64 (m : Int)), (4, .slice none 0 0), (5, .slice s.a s.ps.length s.c), (6, .int .i64 (s.i : Int))]) (fun s => s.g :: (s.H ++ η)) (fun s => xs.length + 4 - s.i) ⟨0, [], some ⟨b10, 0, none⟩, 0, [(b10, Obj.cells #[] 38 (0, 0))], []⟩ ⟨by simp, by simp, by simp, osl_empty⟩ ⟨rfl, rfl, rfl, rfl, rfl, trivial⟩ rfl ?_
 rintro ⟨i, ps, oa, oc, og, HH⟩ ⟨hp6, hi4, hpr, ho⟩
 dsimp only at hp6 hi4 hpr ho
 refine T.seq ?_
 refine T.seq ?_
 refine T.region ?_
 refine TL.move hF rfl rfl ?_
 refine TL.move hF rfl rfl ?_
 refine TL.len hF rfl rfl ?_
 refine TL.bin hF rfl rfl rfl rfl ?_
 refine TL.move hF rfl rfl ?_
 refine TL.gd (t := 15) rfl (fun g3_15 => ?_) (fun g3_15 => ?_)
 ·refine TL.on rfl rfl rfl (decide_eq_true g3_15) ?_
  refine TL.move hF rfl rfl ?_
  refine TL.on rfl rfl rfl (decide_eq_true g3_15) ?_
  refine TL.len hF rfl rfl ?_
  refine TL.on rfl rfl rfl (decide_eq_true g3_15) ?_
  refine TL.bin hF rfl rfl rfl rfl ?_
  refine TL.pickT hF rfl (decide_eq_true g3_15) rfl rfl ?_
  refine TL.nil ?_
  refine TQ.then_n ?_
  first | refine T.cond_d rfl (fun ht19 => ?_) (fun ht19 => ?_) | refine T.cond _ rfl (fun ht19 => ?_) (fun ht19 => ?_)
  ·refine T.skip ?_
   refine TQ.then_n ?_
   refine T.block ?_
   refine T.seq ?_
   refine T.region ?_
   refine TL.buildSlice hF rfl (cs := #[]) (e := 60) (fun w => by kernel_rfl) rfl (fun b20 => ?_)
   refine TL.assign hF rfl rfl ?_
   refine TL.nil ?_
   refine TQ.then_n ?_
   refine T.seq ?_
   refine T.seq ?_
   refine T.region ?_
   refine TL.move hF rfl rfl ?_
   refine TL.move hF rfl rfl ?_
   have hil : i < xs.length := by have h : (i : Int) < (xs.length : Int) := g3_15; omega
   refine TL.indexAddr hF rfl rfl (hx.adi (i := i) (by simpa using hil)) (by dsimp only; omega) (by dsimp only; omega) rfl ?_
   refine TL.load hF rfl (hx.ro.int (i := i) hil) rfl ?_
   refine TL.callV hF (Turn_fn xs[i] (m := 4) (by decide)) rfl rfl ?_
   refine TL.assign hF rfl rfl ?_
   refine TL.nil ?_
   refine TQ.then_n ?_
   refine T.block ?_
   have hk4 := turnI_range xs[i] (m := 4) (by decide)
   have hi0 : i ≤ i := Nat.le_refl _
   refine T.loop (ι := IS) (fun s => (s.k : Int) + s.l.length = (turnI xs[i] 4) ∧ s.i = i + s.l.length ∧ (∀ x ∈ s.l, okEdit m x = true) ∧ OSl 60 2 (.slice s.a s.l.length s.c) s.l.length (s.l.flatMap kC) s.g) (fun s => [(0, .slice a xs.length c), (1, .int .i64 (m : Int)), (4, .slice none 0 0), (5, .slice oa ps.length oc), (6, .int .i64 (s.i : Int)), (7, .slice s.a s.l.length s.c), (8, .int .i64 (s.k : Int))]) (fun s => s.g :: og :: (HH ++ η)) (fun s => s.k) ⟨(turnI xs[i] 4).toNat, i, [], some ⟨b20, 0, none⟩, 0, [(b20, Obj.cells #[] 60 (0, 0))]⟩ ⟨by simp; omega, rfl, by simp, osl_empty⟩ ⟨rfl, rfl, rfl, rfl, rfl, rfl, congrArg (fun z => some (Value.int .i64 z)) (by show (turnI xs[i] 4) = (((turnI xs[i] 4).toNat : Nat) : Int); omega), trivial⟩ rfl ?_
   rintro ⟨k, i2, l, la, lc, lg⟩ ⟨hkl, hi2, hle, hlo⟩
   dsimp only at hkl hi2 hle hlo
   refine T.seq ?_
   refine T.seq ?_
   refine T.region ?_
   refine TL.move hF rfl rfl ?_
   refine TL.bin hF rfl rfl rfl rfl ?_
   refine TL.nil ?_
   refine TQ.then_n ?_
   first | refine T.cond_d rfl (fun ht27 => ?_) (fun ht27 => ?_) | refine T.cond _ rfl (fun ht27 => ?_) (fun ht27 => ?_)
   ·refine T.skip ?_
    refine TQ.then_n ?_
    refine T.seq ?_
    refine T.block ?_
    refine T.seq ?_
    refine T.region ?_
    refine TL.move hF rfl rfl ?_
    refine TL.add hF rfl rfl (by dsimp only; omega) (by dsimp only; omega) rfl ?_
    refine TL.assign hF rfl rfl ?_
    refine TL.nil ?_
    refine TQ.then_n ?_
    refine T.seq ?_
    refine T.region ?_
    refine TL.move hF rfl rfl ?_
    refine TL.move hF rfl rfl ?_
    refine TL.callV hF (Nth_fn ((i2 : Int) + 1) hx.ro (by omega)) rfl rfl ?_
    refine TL.assign hF rfl rfl ?_
    refine TL.nil ?_
    refine TQ.then_n ?_
    have hn2 := nth_i64 hxb ((i2 : Int) + 1)
    have hm1 := turnI_range (nthI xs ((i2 : Int) + 1)) (m := (m : Int)) (by omega)
    have hm8 := turnI_range (Int.tdiv (nthI xs ((i2 : Int) + 1)) (m : Int)) (m := 8) (by decide)
    refine T.drawH 11 mixed ?_
    refine DH.pure (i := 0) [(7, _, none)] rfl rfl rfl rfl ⟨⟨rfl, by kernel_rfl⟩, trivial⟩ (fun _ ext => TL.move hF rfl rfl TL.fin) ?_
    refine DH.pure (i := 1) [(9, _, none)] rfl rfl rfl rfl ⟨⟨rfl, by kernel_rfl⟩, trivial⟩ (fun _ ext => TL.move hF rfl rfl TL.fin) ?_
    refine DH.pure (i := 2) [(1, _, none)] rfl rfl rfl rfl ⟨⟨rfl, by kernel_rfl⟩, trivial⟩ (fun _ ext => TL.move hF rfl rfl TL.fin) ?_
    refine DH.pure (i := 3) [(36, _, some 1), (37, _, some 2)] rfl rfl rfl rfl ⟨⟨rfl, rfl, rfl⟩, ⟨rfl, rfl, rfl⟩, trivial⟩ (fun _ ext => TL.callV hF (Turn_fn (nthI xs ((i2 : Int) + 1)) (m := (m : Int)) (by omega)) rfl rfl TL.fin) ?_
    refine DH.pure (i := 4) [(9, _, none)] rfl rfl rfl rfl ⟨⟨rfl, by kernel_rfl⟩, trivial⟩ (fun _ ext => TL.move hF rfl rfl TL.fin) ?_
    refine DH.pure (i := 5) [(1, _, none)] rfl rfl rfl rfl ⟨⟨rfl, by kernel_rfl⟩, trivial⟩ (fun _ ext => TL.move hF rfl rfl TL.fin) ?_
    refine DH.pure (i := 6) [(39, _, some 4), (40, _, some 5)] rfl rfl rfl rfl ⟨⟨rfl, rfl, rfl⟩, ⟨rfl, rfl, rfl⟩, trivial⟩ (fun _ ext => TL.quoI hF rfl rfl (by omega) (wrap_i64 (tdiv1_i64 hn2 (by omega)).1 (tdiv1_i64 hn2 (by omega)).2) rfl TL.fin) ?_
    refine DH.pure (i := 7) [(41, _, some 6)] rfl rfl rfl rfl ⟨⟨rfl, rfl, rfl⟩, trivial⟩ (fun _ ext => TL.callV hF (Turn_fn (Int.tdiv (nthI xs ((i2 : Int) + 1)) (m : Int)) (m := 8) (by decide)) rfl rfl TL.fin) ?_
    refine DH.pure (i := 8) [(42, _, some 7)] rfl rfl rfl rfl ⟨⟨rfl, rfl, rfl⟩, trivial⟩ (fun _ ext => TL.sub hF rfl rfl (by omega) (by omega) rfl TL.fin) ?_
    refine DH.pure (i := 9) [(38, _, some 3), (43, _, some 8)] rfl rfl rfl rfl ⟨⟨rfl, rfl, rfl⟩, ⟨rfl, rfl, rfl⟩, trivial⟩ (fun _ ext => TL.build hF rfl (r := kV (turnI (nthI xs ((i2 : Int) + 1)) (m : Int), turnI (Int.tdiv (nthI xs ((i2 : Int) + 1)) (m : Int)) 8 - 1)) (fun w => by kernel_rfl) rfl TL.fin) ?_
    refine DH.heavy 10 [(44, _, some 9)] (by kernel_rfl) (by kernel_rfl) (by kernel_rfl) (by kernel_rfl) rfl rfl rfl rfl ⟨⟨rfl, rfl, rfl⟩, trivial⟩ (by kernel_rfl) (fun ext => ?_)
    refine TL.buildSlice hF rfl (cs := (kC (turnI (nthI xs ((i2 : Int) + 1)) (m : Int), turnI (Int.tdiv (nthI xs ((i2 : Int) + 1)) (m : Int)) 8 - 1)).toArray) (e := 60) (fun w => by kernel_rfl) rfl (fun bq => ?_)
    refine TL.finD ?_
    refine DH.done [(45, _), (44, _), (43, _), (42, _), (41, _), (40, _), (39, _), (38, _), (37, _), (36, _), (35, _)] [_, _] (by kernel_rfl) (by kernel_rfl) (by kernel_rfl) (by kernel_rfl) rfl rfl ?_
    refine TL.append hF 1 rfl rfl rfl hlo (row_own (cs := kC (turnI (nthI xs ((i2 : Int) + 1)) (m : Int), turnI (Int.tdiv (nthI xs ((i2 : Int) + 1)) (m : Int)) 8 - 1)) (e := 60) (by simp)).src rfl rfl (kC1 _) (by omega) (by omega) rfl (fun pa pc pg ph => ?_)
    rw [flat_snoc] at ph
    refine TL.assign hF rfl rfl ?_
    refine TL.nil ?_
    refine TQ.block_n ?_
    refine TQ.then_n ?_
    refine T.region ?_
    refine TL.move hF rfl rfl ?_
    have hk0 : 0 < (k : Int) := ht27
    refine TL.sub hF rfl rfl (by dsimp only; omega) (by dsimp only; omega) rfl ?_
    refine TL.assign hF rfl rfl ?_
    refine TL.nil ?_
    have hlx : (l ++ [(turnI (nthI xs ((i2 : Int) + 1)) (m : Int), turnI (Int.tdiv (nthI xs ((i2 : Int) + 1)) (m : Int)) 8 - 1)]).length = l.length + 1 := by simp
    refine TQ.pop ?_
    refine TQ.round ⟨k - 1, i2 + 1, l ++ [(turnI (nthI xs ((i2 : Int) + 1)) (m : Int), turnI (Int.tdiv (nthI xs ((i2 : Int) + 1)) (m : Int)) 8 - 1)], pa, pc, pg⟩ ⟨by dsimp only; omega, by dsimp only; omega, fun x hx2 => ?_, by dsimp only; rw [hlx]; exact ph⟩ (by dsimp only; omega) ⟨rfl, rfl, rfl, rfl, rfl, by rw [hlx]; rfl, congrArg (fun z => some (Value.int .i64 z)) (by show (k : Int) - 1 = ((k - 1 : Nat) : Int); omega), trivial⟩ rfl
    rcases List.mem_append.1 hx2 with hx2 | hx2
    ·exact hle x hx2
    ·rw [List.mem_singleton.1 hx2, okEdit_iff]
     refine ⟨hm1.1, hm1.2, ?_⟩
     rw [isW_iff]; dsimp only; omega
   ·refine T.exit ?_
    refine TQ.then_x ?_
    refine TQ.then_x ?_
    refine TQ.block_x ?_
    refine TQ.then_n ?_
    refine T.region ?_
    refine TL.move hF rfl rfl ?_
    refine TL.move hF rfl rfl ?_
    refine TL.buildSlice hF rfl (cs := #[.slice la l.length lc]) (e := 38) (fun w => by kernel_rfl) rfl (fun bq => ?_)
    refine TL.append hF 2 rfl rfl rfl ho (row_own (cs := [.slice la l.length lc]) (e := 38) (by simp)).src rfl rfl (by simp [Value.oneCell']) (by omega) (by omega) rfl (fun pa pc pg ph => ?_)
    rw [show ps.map ghc ++ [.slice la l.length lc] = (ps ++ [((la, l, lc) : EH)]).map ghc by simp [ghc]] at ph
    refine TL.move hF rfl rfl ?_
    refine TL.add hF rfl rfl (by dsimp only; omega) (by dsimp only; omega) rfl ?_
    refine TL.assign hF rfl rfl ?_
    refine TL.assign hF rfl rfl ?_
    refine TL.nil ?_
    refine TQ.block_n ?_
    have hlx : (ps ++ [((la, l, lc) : EH)]).length = ps.length + 1 := by simp
    have hp5 : ps.length < 6 := by have h : (ps.length : Int) < 6 := ht19; omega
    refine TQ.heap (η' := [(bq, Obj.cells #[.slice la l.length lc] 38 (0, 0))] :: lg :: pg :: (HH ++ η)) rfl ?_
    refine TQ.pop ?_
    refine TQ.hperm (pg :: ((lg :: HH) ++ η)) (List.Perm.swap _ _ _) ?_
    refine TQ.round ⟨i2 + 1, ps ++ [((la, l, lc) : EH)], pa, pc, pg, lg :: HH⟩ ⟨by dsimp only; omega, by dsimp only; rw [hlx]; omega, fun p hp => ?_, by dsimp only; rw [hlx]; exact ph⟩ (by dsimp only; omega) ⟨rfl, rfl, rfl, by rw [hlx]; rfl, rfl, trivial⟩ rfl
    rcases List.mem_append.1 hp with hp | hp
    ·exact ⟨(hpr p hp).1, (hpr p hp).2.up (by intro s hs; simp [hs])⟩
    ·rw [List.mem_singleton.1 hp]
     exact ⟨⟨by dsimp only; omega, hle⟩, OSl.row hlo (by simp)⟩
  ·refine T.exit ?_
   refine TQ.then_x ?_
   refine TQ.then_x ?_
   refine TQ.block_x ?_
   refine TQ.then_n ?_
   refine T.seq ?_
   refine T.region ?_
   refine TL.move hF rfl rfl ?_
   refine TL.assign hF rfl rfl ?_
   refine TL.nil ?_
   refine TQ.then_n ?_
   refine T.ret ?_
   refine TQ.rets [4] _ rfl rfl rfl ?_
   exact ⟨oa, oc, ps, og :: HH, rfl, ⟨OSl.row ho (by simp), fun p hp => (hpr p hp).2.up (by intro s hs; simp [hs])⟩, hp6, fun p hp => (hpr p hp).1, osl_cap ho, rfl⟩
 ·refine TL.off hF rfl rfl rfl (decide_eq_false g3_15) rfl ?_
  refine TL.off hF rfl rfl rfl (decide_eq_false g3_15) rfl ?_
  refine TL.off hF rfl rfl rfl (decide_eq_false g3_15) rfl ?_
  refine TL.pickF hF rfl (decide_eq_false g3_15) rfl rfl ?_
  refine TL.nil ?_
  refine TQ.then_n ?_
  refine T.cond_f rfl rfl ?_
  refine T.exit ?_
  refine TQ.then_x ?_
  refine TQ.then_x ?_
  refine TQ.block_x ?_
  refine TQ.then_n ?_
  refine T.seq ?_
  refine T.region ?_
  refine TL.move hF rfl rfl ?_
  refine TL.assign hF rfl rfl ?_
  refine TL.nil ?_
  refine TQ.then_n ?_
  refine T.ret ?_
  refine TQ.rets [4] _ rfl rfl rfl ?_
  exact ⟨oa, oc, ps, og :: HH, rfl, ⟨OSl.row ho (by simp), fun p hp => (hpr p hp).2.up (by intro s hs; simp [hs])⟩, hp6, fun p hp => (hpr p hp).1, osl_cap ho, rfl⟩
end Go.Proofs.YtdiacobmhkmljaaDoor
/- Cells behind edits; nodes found; whether a round fits two traces. -/
namespace Go.Proofs.YtdiacobmhkmljaaDoor
open Go.Sl
variable {S : Nat → Prop} {w0 : World} {η : Heap}
set_option maxHeartbeats 2000000 in
theorem has_fn {a : Option Addr} {l : List Key} {c : Nat} {k : Key} (hx : KRow S w0 [] a l) (hl : l.length < 9223372036854775808) :
  Rt Tryd.prog 21 [.slice a l.length c, kV k].toArray S w0 η (fun v η' => v = .bool (decide (k ∈ l)) ∧ η' = η) := by
 have hF := open_wide
 refine Rt.of (fn := Tryd.f21) Tryd.func21 rfl rfl ?_
 refine T.seq ?_
 refine T.region ?_
 refine TL.box hF rfl rfl (fun b3 => ?_)
 refine TL.assign hF rfl rfl ?_
 refine TL.nil ?_
 refine TQ.then_n ?_
 refine T.seq ?_
 refine T.seq ?_
 refine T.region ?_
 refine TL.assign hF rfl rfl ?_
 refine TL.nil ?_
 refine TQ.then_n ?_
 refine T.block ?_
 refine T.loop (ι := Nat) (fun i => i ≤ l.length ∧ k ∉ l.take i) (fun i => [(0, .slice a l.length c), (3, ptr b3), (4, .bool false), (5, .int .i64 (i : Int))]) (fun _ => [(b3, Obj.cells (kC k).toArray 25 (0, 0))] :: η) (fun i => l.length - i) 0 ⟨Nat.zero_le _, by simp⟩ ⟨rfl, rfl, rfl, rfl, trivial⟩ rfl ?_
 rintro i ⟨hi, hno⟩
 refine T.seq ?_
 refine T.seq ?_
 refine T.region ?_
 refine TL.move hF rfl rfl ?_
 refine TL.move hF rfl rfl ?_
 refine TL.len hF rfl rfl ?_
 refine TL.bin hF rfl rfl rfl rfl ?_
 refine TL.nil ?_
 refine TQ.then_n ?_
 first | refine T.cond_d rfl (fun ht9 => ?_) (fun ht9 => ?_) | refine T.cond _ rfl (fun ht9 => ?_) (fun ht9 => ?_)
 ·refine T.skip ?_
  refine TQ.then_n ?_
  refine T.seq ?_
  refine T.block ?_
  refine T.seq ?_
  have hil : i < l.length := by omega
  refine T.draw ?_
  refine DR.stepV [_] rfl [(0, _, none)] rfl rfl ⟨⟨rfl, by kernel_rfl⟩, trivial⟩ (fun ext => TL.move hF rfl rfl TL.fin) ?_
  refine DR.stepV [_, _] rfl [(5, _, none)] rfl rfl ⟨⟨rfl, by kernel_rfl⟩, trivial⟩ (fun ext => TL.move hF rfl rfl TL.fin) ?_
  refine DR.stepV [_, _, _] rfl [(12, _, some 0), (13, _, some 1)] rfl rfl ⟨⟨rfl, rfl, rfl⟩, ⟨rfl, rfl, rfl⟩, trivial⟩ (fun ext => TL.indexAddr hF rfl rfl (hx.tad kC_len (by decide) hil) (by omega) (by omega) rfl TL.fin) ?_
  refine DR.stepV [_, _, _, _] rfl [(14, _, some 2)] rfl rfl ⟨⟨rfl, rfl, rfl⟩, trivial⟩ (fun ext => TL.loadA hF (kC l[i]) rfl rfl (hx.ro.tabA kC_len (i := i) hil) rfl TL.fin) ?_
  refine DR.stepV [_, _, _, _, _] rfl [(3, _, none)] rfl rfl ⟨⟨rfl, by kernel_rfl⟩, trivial⟩ (fun ext => TL.loadA hF (kC k) rfl rfl (own_list (i := 0) (cs := kC k) rfl) rfl TL.fin) ?_
  refine DR.done [(16, _), (15, _), (14, _), (13, _), (12, _)] [_] mixed (by kernel_rfl) (by kernel_rfl) (by kernel_rfl) rfl rfl ?_
  refine TL.eqlA hF rfl rfl (by kernel_rfl) (eqK l[i] k) rfl ?_
  refine TL.nil ?_
  refine TQ.then_n ?_
  first | refine T.cond_d rfl (fun ht17 => ?_) (fun ht17 => ?_) | refine T.cond _ rfl (fun ht17 => ?_) (fun ht17 => ?_)
  ·refine T.seq ?_
   refine T.region ?_
   refine TL.assign hF rfl rfl ?_
   refine TL.nil ?_
   refine TQ.then_n ?_
   refine T.ret ?_
   refine TQ.block_r ?_
   refine TQ.then_r ?_
   refine TQ.then_r ?_
   refine TQ.block_r ?_
   refine TQ.then_r ?_
   refine TQ.pop ?_
   refine TQ.rets [4] _ rfl rfl rfl ?_
   exact ⟨by rw [decide_eq_true (show k ∈ l from ht17 ▸ List.getElem_mem hil)]; rfl, rfl⟩
  ·refine T.skip ?_
   refine TQ.block_n ?_
   refine TQ.then_n ?_
   refine T.region ?_
   refine TL.move hF rfl rfl ?_
   refine TL.add hF rfl rfl (by omega) (by omega) rfl ?_
   refine TL.assign hF rfl rfl ?_
   refine TL.nil ?_
   refine TQ.round (i + 1) ⟨by omega, fun h => ?_⟩ (by omega) ⟨rfl, rfl, rfl, rfl, trivial⟩ rfl
   rw [List.take_succ_eq_append_getElem hil] at h
   rcases List.mem_append.1 h with h | h
   ·exact hno h
   ·exact ht17 (List.mem_singleton.1 h).symm
 ·refine T.exit ?_
  refine TQ.then_x ?_
  refine TQ.then_x ?_
  refine TQ.block_x ?_
  refine TQ.then_n ?_
  refine T.seq ?_
  refine T.region ?_
  refine TL.assign hF rfl rfl ?_
  refine TL.nil ?_
  refine TQ.then_n ?_
  refine T.ret ?_
  refine TQ.pop ?_
  refine TQ.rets [4] _ rfl rfl rfl ?_
  exact ⟨by rw [decide_eq_false (fun h => hno (by rw [List.take_of_length_le (by omega)]; exact h))]; rfl, rfl⟩
theorem findN_app1 {l : List Nd} {x : Nd} {k : Key} (h : findN l k = none) : findN (l ++ [x]) k = if x.key = k then some x else none := by
 unfold findN at h ⊢
 rw [List.find?_append, h, List.find?_cons, List.find?_nil]
 by_cases e : x.key = k <;> simp [e]
theorem findN_first {l : List Nd} {i : Nat} {k : Key} (hi : i < l.length) (h : findN (l.take i) k = none) (e : l[i].key = k) : findN l k = some l[i] := by
 have h1 : findN (l.take (i + 1)) k = some l[i] := by
  rw [List.take_succ_eq_append_getElem hi, findN_app1 h, if_pos e]
 unfold findN at h1 ⊢
 have h2 : l.find? (fun x => decide (x.key = k)) = (l.take (i + 1) ++ l.drop (i + 1)).find? (fun x => decide (x.key = k)) := by rw [List.take_append_drop]
 rw [h2, List.find?_append, h1]; rfl
def zNH : NH := ⟨⟨(0, 0), 0, []⟩, none, 0⟩
/-- What is found in a trace. -/
def NdR (l : List NH) (k : Key) (x : NH) (b : Bool) : Prop := (b = true → x ∈ l ∧ findN (nds l) k = some x.nd) ∧ (b = false → findN (nds l) k = none ∧ x = zNH)
theorem NdR.has {l : List NH} {k : Key} {x : NH} {b : Bool} (h : NdR l k x b) : b = hasN (nds l) k := by
 unfold hasN
 cases b with
 | true => rw [(h.1 rfl).2]; rfl
 | false => rw [(h.2 rfl).1]; rfl
set_option maxHeartbeats 2000000 in
theorem node_fn {a : Option Addr} {l : List NH} {c : Nat} {k : Key} (hx : NL S w0 [] a l) (hl : l.length < 9223372036854775808) :
  Rt Tryd.prog 15 [.slice a l.length c, kV k].toArray S w0 η (fun v η' => ∃ x b, v = .tuple #[.agg (nhC x).toArray, .bool b] ∧ NdR l k x b ∧ η' = η) := by
 have hF := open_wide
 refine Rt.of (fn := Tryd.f15) Tryd.func15 rfl rfl ?_
 refine T.seq ?_
 refine T.region ?_
 refine TL.box hF rfl rfl (fun b3 => ?_)
 refine TL.alloc hF rfl (fun b4 => ?_)
 refine TL.assign hF rfl rfl ?_
 refine TL.nil ?_
 refine TQ.then_n ?_
 refine T.seq ?_
 refine T.seq ?_
 refine T.region ?_
 refine TL.assign hF rfl rfl ?_
 refine TL.nil ?_
 refine TQ.then_n ?_
 refine T.block ?_
 refine T.loop (ι := Nat) (fun i => i ≤ l.length ∧ findN ((nds l).take i) k = none) (fun i => [(0, .slice a l.length c), (3, ptr b3), (4, ptr b4), (5, .bool false), (6, .int .i64 (i : Int))]) (fun _ => [(b4, Obj.cells [.int .i64 0, .int .i64 0, .int .i64 0, .slice none 0 0].toArray 43 (0, 0))] :: [(b3, Obj.cells (kC k).toArray 25 (0, 0))] :: η) (fun i => l.length - i) 0 ⟨Nat.zero_le _, rfl⟩ ⟨rfl, rfl, rfl, rfl, rfl, trivial⟩ rfl ?_
 rintro i ⟨hi, hno⟩
 refine T.seq ?_
 refine T.seq ?_
 refine T.region ?_
 refine TL.move hF rfl rfl ?_
 refine TL.move hF rfl rfl ?_
 refine TL.len hF rfl rfl ?_
 refine TL.bin hF rfl rfl rfl rfl ?_
 refine TL.nil ?_
 refine TQ.then_n ?_
 first | refine T.cond_d rfl (fun ht10 => ?_) (fun ht10 => ?_) | refine T.cond _ rfl (fun ht10 => ?_) (fun ht10 => ?_)
 ·refine T.skip ?_
  refine TQ.then_n ?_
  refine T.seq ?_
  refine T.block ?_
  refine T.seq ?_
  have hil : i < l.length := by omega
  have hin : i < (nds l).length := by rw [nds_len]; exact hil
  refine T.draw ?_
  refine DR.stepV [_] rfl [(0, _, none)] rfl rfl ⟨⟨rfl, by kernel_rfl⟩, trivial⟩ (fun ext => TL.move hF rfl rfl TL.fin) ?_
  refine DR.stepV [_, _] rfl [(6, _, none)] rfl rfl ⟨⟨rfl, by kernel_rfl⟩, trivial⟩ (fun ext => TL.move hF rfl rfl TL.fin) ?_
  refine DR.stepV [_, _, _] rfl [(13, _, some 0), (14, _, some 1)] rfl rfl ⟨⟨rfl, rfl, rfl⟩, ⟨rfl, rfl, rfl⟩, trivial⟩ (fun ext => TL.indexAddr hF rfl rfl (hx.ad hil) (by omega) (by omega) rfl TL.fin) ?_
  refine DR.stepV [_, _, _, _] rfl [(15, _, some 2)] rfl rfl ⟨⟨rfl, rfl, rfl⟩, trivial⟩ (fun ext => TL.fieldAddr hF rfl rfl TL.fin) ?_
  refine DR.stepV [_, _, _, _, _] rfl [(16, _, some 3)] rfl rfl ⟨⟨rfl, rfl, rfl⟩, trivial⟩ (fun ext => TL.loadA hF (kC l[i].nd.key) rfl rfl (hx.ro.keyAt hil) rfl TL.fin) ?_
  refine DR.stepV [_, _, _, _, _, _] rfl [(3, _, none)] rfl rfl ⟨⟨rfl, by kernel_rfl⟩, trivial⟩ (fun ext => TL.loadA hF (kC k) rfl rfl (own_list (i := 1) (cs := kC k) rfl) rfl TL.fin) ?_
  refine DR.done [(18, _), (17, _), (16, _), (15, _), (14, _), (13, _)] [_] mixed (by kernel_rfl) (by kernel_rfl) (by kernel_rfl) rfl rfl ?_
  refine TL.eqlA hF rfl rfl (by kernel_rfl) (eqK l[i].nd.key k) rfl ?_
  refine TL.nil ?_
  refine TQ.then_n ?_
  first | refine T.cond_d rfl (fun ht19 => ?_) (fun ht19 => ?_) | refine T.cond _ rfl (fun ht19 => ?_) (fun ht19 => ?_)
  ·refine T.seq ?_
   refine T.region ?_
   refine TL.move hF rfl rfl ?_
   refine TL.move hF rfl rfl ?_
   refine TL.indexAddr hF rfl rfl (hx.ad hil) (by omega) (by omega) rfl ?_
   refine TL.loadA hF (nhC l[i]) rfl rfl (hx.ro.atA (i := i) hil) rfl ?_
   refine TL.storeAs hF (nhC l[i]) (nhC l[i]) 0 (cs := [.int .i64 0, .int .i64 0, .int .i64 0, .slice none 0 0]) rfl rfl rfl rfl (nhC1 _) (Nat.le_refl 4) rfl ?_
   refine TL.assign hF rfl rfl ?_
   refine TL.nil ?_
   refine TQ.then_n ?_
   refine T.ret ?_
   refine TQ.block_r ?_
   refine TQ.then_r ?_
   refine TQ.then_r ?_
   refine TQ.block_r ?_
   refine TQ.then_r ?_
   refine TQ.retCT (nhC l[i]) η rfl rfl rfl rfl (own_list (i := 0) (cs := nhC l[i]) rfl) (List.Sublist.cons _ (List.sublist_cons_self _ _)) ?_
   refine ⟨l[i], true, rfl, ⟨fun _ => ⟨List.getElem_mem hil, ?_⟩, fun h => (by cases h)⟩, rfl⟩
   have := findN_first hin hno (by rw [nds_get hil]; exact ht19)
   rw [nds_get hil] at this; exact this
  ·refine T.skip ?_
   refine TQ.block_n ?_
   refine TQ.then_n ?_
   refine T.region ?_
   refine TL.move hF rfl rfl ?_
   refine TL.add hF rfl rfl (by omega) (by omega) rfl ?_
   refine TL.assign hF rfl rfl ?_
   refine TL.nil ?_
   refine TQ.round (i + 1) ⟨by omega, ?_⟩ (by omega) ⟨rfl, rfl, rfl, rfl, rfl, trivial⟩ rfl
   rw [List.take_succ_eq_append_getElem hin, findN_app1 hno, if_neg]
   rw [nds_get hil]; exact ht19
 ·refine T.exit ?_
  refine TQ.then_x ?_
  refine TQ.then_x ?_
  refine TQ.block_x ?_
  refine TQ.then_n ?_
  refine T.seq ?_
  refine T.region ?_
  refine TL.build hF rfl (r := .agg #[.int .i64 0, .int .i64 0, .int .i64 0, .slice none 0 0]) (fun w => by kernel_rfl) rfl ?_
  refine TL.storeAs hF [.int .i64 0, .int .i64 0, .int .i64 0, .slice none 0 0] [.int .i64 0, .int .i64 0, .int .i64 0, .slice none 0 0] 0 (cs := [.int .i64 0, .int .i64 0, .int .i64 0, .slice none 0 0]) rfl rfl rfl rfl (by simp [Value.oneCell']) (Nat.le_refl 4) rfl ?_
  refine TL.assign hF rfl rfl ?_
  refine TL.nil ?_
  refine TQ.then_n ?_
  refine T.ret ?_
  refine TQ.retCT [.int .i64 0, .int .i64 0, .int .i64 0, .slice none 0 0] η rfl rfl rfl rfl (own_list (i := 0) (cs := [.int .i64 0, .int .i64 0, .int .i64 0, .slice none 0 0]) rfl) (List.Sublist.cons _ (List.sublist_cons_self _ _)) ?_
  refine ⟨zNH, false, rfl, ⟨fun h => (by cases h), fun _ => ⟨?_, rfl⟩⟩, rfl⟩
  rw [List.take_of_length_le (by rw [nds_len]; omega)] at hno; exact hno
theorem _root_.Go.Sl.Row.kAt {a : Option Addr} {l : List (Int × Int)} (h : Row S w0 η a (l.flatMap kC)) {i : Nat} (hi : i < l.length) : At S w0 η ⟨(sAt a (i * 2)).block, (sAt a (i * 2)).off + 0, Option.none⟩ (.int .i64 l[i].1) := h.tabA kC_len hi 0 _ rfl
theorem _root_.Go.Sl.Row.vAt {a : Option Addr} {l : List (Int × Int)} (h : Row S w0 η a (l.flatMap kC)) {i : Nat} (hi : i < l.length) : At S w0 η ⟨(sAt a (i * 2)).block, (sAt a (i * 2)).off + 1, Option.none⟩ (.int .i64 l[i].2) := h.tabA kC_len hi 1 _ rfl
set_option maxHeartbeats 2000000 in
theorem edited_fn {ca la : Option Addr} {cells : List Int} {l : List (Int × Int)} {cc lc : Nat} (hc : Row S w0 η ca (ints cells)) (h1 : 1 ≤ cells.length) (h2 : cells.length ≤ 100) (hl : Row S w0 [] la (l.flatMap kC)) (hll : l.length < 9223372036854775808) (hok : ∀ x ∈ l, okEdit cells.length x = true) :
  Rt Tryd.prog 13 [.slice ca cells.length cc, .slice la l.length lc].toArray S w0 η (fun v η' => ∃ a c seg, v = .slice a cells.length c ∧ OSl 3 1 (.slice a cells.length c) cells.length (ints (editS cells l)) seg ∧ η' = seg :: η) := by
 have hF := open_wide
 refine Rt.of (fn := Tryd.f13) Tryd.func13 rfl rfl ?_
 refine T.seq ?_
 refine T.region ?_
 refine TL.assign hF rfl rfl ?_
 refine TL.nil ?_
 refine TQ.then_n ?_
 refine T.seq ?_
 refine T.region ?_
 refine TL.move hF rfl rfl ?_
 refine TL.call hF (Copy_fn hc (by omega)) rfl rfl ?_
 rintro _ _ ⟨ga, gcap, seg, rfl, ho, rfl⟩
 refine TL.assign hF rfl rfl ?_
 refine TL.nil ?_
 refine TQ.then_n ?_
 refine T.seq ?_
 refine T.seq ?_
 refine T.region ?_
 refine TL.assign hF rfl rfl ?_
 refine TL.nil ?_
 refine TQ.then_n ?_
 refine T.block ?_
 obtain ⟨gb, gc2, gcur, hgv, rfl, hgsz⟩ := OSl.ex ho (by omega)
 simp only [Value.slice.injEq, true_and] at hgv
 obtain ⟨rfl, rfl⟩ := hgv
 refine T.loop (ι := Nat × Array Value) (fun s => s.1 ≤ l.length ∧ OSl 3 1 (.slice (some ⟨gb, 0, none⟩) cells.length gcap) cells.length (ints (editS cells (l.take s.1))) [(gb, .cells s.2 3 (0, 0))]) (fun s => [(1, .slice la l.length lc), (4, .slice none 0 0), (5, .slice (some ⟨gb, 0, none⟩) cells.length gcap), (6, .int .i64 (s.1 : Int))]) (fun s => [(gb, .cells s.2 3 (0, 0))] :: η) (fun s => l.length - s.1) (0, gcur) ⟨Nat.zero_le _, ho⟩ ⟨rfl, rfl, rfl, rfl, trivial⟩ rfl ?_
 rintro ⟨i, gcur⟩ ⟨hi, ho⟩
 dsimp only at hi ho
 refine T.seq ?_
 refine T.seq ?_
 refine T.region ?_
 refine TL.move hF rfl rfl ?_
 refine TL.move hF rfl rfl ?_
 refine TL.len hF rfl rfl ?_
 refine TL.bin hF rfl rfl rfl rfl ?_
 refine TL.nil ?_
 refine TQ.then_n ?_
 first | refine T.cond_d rfl (fun ht12 => ?_) (fun ht12 => ?_) | refine T.cond _ rfl (fun ht12 => ?_) (fun ht12 => ?_)
 ·refine T.skip ?_
  refine TQ.then_n ?_
  refine T.seq ?_
  refine T.block ?_
  have hil : i < l.length := by have h : (i : Int) < (l.length : Int) := ht12; omega
  have htk : l.take (i + 1) = l.take i ++ [l[i]] := List.take_succ_eq_append_getElem hil
  have hxok := okEdit_iff.1 (hok _ (List.getElem_mem hil))
  have hgs : cells.length ≤ gcur.size := by
   obtain ⟨g9, c9, cur9, e9, s9, z9⟩ := OSl.ex ho (by omega)
   simp only [List.cons.injEq, Prod.mk.injEq, Obj.cells.injEq, and_true] at s9
   rw [← s9.2] at z9; omega
  refine T.draw ?_
  refine DR.stepV [_] rfl [(5, _, none)] rfl rfl ⟨⟨rfl, by kernel_rfl⟩, trivial⟩ (fun ext => TL.move hF rfl rfl TL.fin) ?_
  refine DR.stepV [_, _] rfl [(1, _, none)] rfl rfl ⟨⟨rfl, by kernel_rfl⟩, trivial⟩ (fun ext => TL.move hF rfl rfl TL.fin) ?_
  refine DR.stepV [_, _, _] rfl [(6, _, none)] rfl rfl ⟨⟨rfl, by kernel_rfl⟩, trivial⟩ (fun ext => TL.move hF rfl rfl TL.fin) ?_
  refine DR.stepV [_, _, _, _] rfl [(16, _, some 1), (17, _, some 2)] rfl rfl ⟨⟨rfl, rfl, rfl⟩, ⟨rfl, rfl, rfl⟩, trivial⟩ (fun ext => TL.indexAddr hF rfl rfl (hl.tad kC_len (by decide) hil) (by dsimp only; omega) (by dsimp only; omega) rfl TL.fin) ?_
  refine DR.stepV [_, _, _, _, _] rfl [(18, _, some 3)] rfl rfl ⟨⟨rfl, rfl, rfl⟩, trivial⟩ (fun ext => TL.fieldAddr hF rfl rfl TL.fin) ?_
  refine DR.stepV [_, _, _, _, _, _] rfl [(19, _, some 4)] rfl rfl ⟨⟨rfl, rfl, rfl⟩, trivial⟩ (fun ext => TL.load hF rfl (hl.ro.kAt hil) rfl TL.fin) ?_
  refine DR.stepV [_, _, _, _, _, _, _] rfl [(1, _, none)] rfl rfl ⟨⟨rfl, by kernel_rfl⟩, trivial⟩ (fun ext => TL.move hF rfl rfl TL.fin) ?_
  refine DR.stepV [_, _, _, _, _, _, _, _] rfl [(6, _, none)] rfl rfl ⟨⟨rfl, by kernel_rfl⟩, trivial⟩ (fun ext => TL.move hF rfl rfl TL.fin) ?_
  refine DR.stepV [_, _, _, _, _, _, _, _, _] rfl [(21, _, some 6), (22, _, some 7)] rfl rfl ⟨⟨rfl, rfl, rfl⟩, ⟨rfl, rfl, rfl⟩, trivial⟩ (fun ext => TL.indexAddr hF rfl rfl (hl.tad kC_len (by decide) hil) (by dsimp only; omega) (by dsimp only; omega) rfl TL.fin) ?_
  refine DR.stepV [_, _, _, _, _, _, _, _, _, _] rfl [(23, _, some 8)] rfl rfl ⟨⟨rfl, rfl, rfl⟩, trivial⟩ (fun ext => TL.fieldAddr hF rfl rfl TL.fin) ?_
  refine DR.stepV [_, _, _, _, _, _, _, _, _, _, _] rfl [(24, _, some 9)] rfl rfl ⟨⟨rfl, rfl, rfl⟩, trivial⟩ (fun ext => TL.load hF rfl (hl.ro.vAt hil) rfl TL.fin) ?_
  refine DR.done [(25, _), (24, _), (23, _), (22, _), (21, _), (20, _), (19, _), (18, _), (17, _), (16, _), (15, _)] [_, _] mixed (by kernel_rfl) (by kernel_rfl) (by kernel_rfl) rfl rfl ?_
  refine TL.indexAddr hF rfl rfl ⟨_, rfl, rfl⟩ hxok.1 (by have := hxok.2.1; omega) rfl ?_
  refine TL.storeI hF 0 rfl rfl rfl rfl (by have h1 := hxok.2.1; have h2 := hxok.1; have h3 := hgs; simp; omega) ?_
  refine TL.nil ?_
  refine TQ.block_n ?_
  refine TQ.then_n ?_
  refine T.region ?_
  refine TL.move hF rfl rfl ?_
  refine TL.add hF rfl rfl (by dsimp only; omega) (by dsimp only; omega) rfl ?_
  refine TL.assign hF rfl rfl ?_
  refine TL.nil ?_
  have hput := ho.put (j := l[i].1.toNat) (u := .int .i64 l[i].2)
  have hset : (ints (editS cells (l.take i))).set l[i].1.toNat (.int .i64 l[i].2) = ints (editS cells (l.take (i + 1))) := by
   rw [htk, editS_snoc]; unfold ints; rw [List.map_set]
  rw [hset] at hput
  have hoff : (sAt (some ⟨gb, 0, none⟩) (l[i].1.toNat * 1)).off = l[i].1.toNat := by simp [sAt]
  refine TQ.round (i + 1, gcur.setIfInBounds l[i].1.toNat (.int .i64 l[i].2)) ⟨by dsimp only; omega, hput⟩ (by dsimp only; omega) ⟨rfl, rfl, rfl, rfl, trivial⟩ ?_
  exact congrArg (fun q => ([(gb, Obj.cells (gcur.setIfInBounds q (Value.int .i64 l[i].2)) 3 (0, 0))] :: η : Heap)) hoff
 ·refine T.exit ?_
  refine TQ.then_x ?_
  refine TQ.then_x ?_
  refine TQ.block_x ?_
  refine TQ.then_n ?_
  refine T.seq ?_
  refine T.region ?_
  refine TL.move hF rfl rfl ?_
  refine TL.assign hF rfl rfl ?_
  refine TL.nil ?_
  refine TQ.then_n ?_
  refine T.ret ?_
  have hin : l.length ≤ i := by have h : ¬ (i : Int) < (l.length : Int) := ht12; omega
  rw [List.take_of_length_le hin] at ho
  refine TQ.rets [4] _ rfl rfl rfl ?_
  exact ⟨some ⟨gb, 0, none⟩, gcap, _, rfl, ho, rfl⟩
set_option maxHeartbeats 4000000 in
theorem fits_fn {x : RH} {oa na : Option Addr} {old now : List NH} {oc nc : Nat} (hx : RM S w0 [] x) (ho : NL S w0 [] oa old) (hn : NL S w0 [] na now) (hol : old.length < 1152921504606846976) (hnl : now.length < 1152921504606846976) (hfit : fitsB x.r (nds old) (nds now) = true) :
  Rt Tryd.prog 16 [.agg (rhC x).toArray, .slice oa old.length oc, .slice na now.length nc].toArray S w0 η (fun v η' => v = .bool true ∧ η' = η) := by
 unfold fitsB at hfit
 simp only [Bool.and_eq_true, decide_eq_true_eq, List.all_eq_true, nds_len] at hfit
 obtain ⟨⟨⟨hl1, hl2⟩, hp1⟩, hp2⟩ := hfit
 have hq1 : ∀ y ∈ now, ((decide (y.nd.key ∈ x.r.new) != hasN (nds old) y.nd.key) = true) ∧ ((decide (y.nd.key ∈ x.r.kept) == keptB (nds old) y.nd) = true) ∧ ((decide (y.nd.key ∈ x.r.again) == againB (nds old) y.nd) = true) := fun y hy => by
  have := hp1 y.nd (List.mem_map_of_mem hy)
  exact ⟨this.1.1, this.1.2, this.2⟩
 have hq2 : ∀ y ∈ old, ((decide (y.nd.key ∈ x.r.dropped) != hasN (nds now) y.nd.key) = true) := fun y hy => hp2 y.nd (List.mem_map_of_mem hy)
 have hF := open_wide
 refine Rt.of (fn := Tryd.f16) Tryd.func16 rfl rfl ?_
 refine T.seq ?_
 refine T.region ?_
 refine TL.box hF rfl rfl (fun b3 => ?_)
 refine TL.assign hF rfl rfl ?_
 refine TL.nil ?_
 refine TQ.then_n ?_
 refine T.seq ?_
 refine T.seq ?_
 refine T.region ?_
 refine TL.move hF rfl rfl ?_
 refine TL.len hF rfl rfl ?_
 refine TL.fieldAddr hF rfl rfl ?_
 refine TL.load hF rfl (by first | exact At.own' (i := 0) rfl rfl | exact At.own' (i := 1) rfl rfl | exact At.own' (i := 2) rfl rfl | exact At.own' (i := 3) rfl rfl | exact At.own' (i := 4) rfl rfl | exact At.own' (i := 5) rfl rfl | exact At.own' (i := 6) rfl rfl | exact At.own' (i := 7) rfl rfl | exact At.own' (i := 8) rfl rfl | exact At.own' (i := 9) rfl rfl | exact At.own' (i := 10) rfl rfl | exact At.own' (i := 11) rfl rfl | exact At.own' (i := 12) rfl rfl) rfl ?_
 refine TL.len hF rfl rfl ?_
 refine TL.fieldAddr hF rfl rfl ?_
 refine TL.load hF rfl (by first | exact At.own' (i := 0) rfl rfl | exact At.own' (i := 1) rfl rfl | exact At.own' (i := 2) rfl rfl | exact At.own' (i := 3) rfl rfl | exact At.own' (i := 4) rfl rfl | exact At.own' (i := 5) rfl rfl | exact At.own' (i := 6) rfl rfl | exact At.own' (i := 7) rfl rfl | exact At.own' (i := 8) rfl rfl | exact At.own' (i := 9) rfl rfl | exact At.own' (i := 10) rfl rfl | exact At.own' (i := 11) rfl rfl | exact At.own' (i := 12) rfl rfl) rfl ?_
 refine TL.len hF rfl rfl ?_
 refine TL.add hF rfl rfl (by omega) (by omega) rfl ?_
 refine TL.fieldAddr hF rfl rfl ?_
 refine TL.load hF rfl (by first | exact At.own' (i := 0) rfl rfl | exact At.own' (i := 1) rfl rfl | exact At.own' (i := 2) rfl rfl | exact At.own' (i := 3) rfl rfl | exact At.own' (i := 4) rfl rfl | exact At.own' (i := 5) rfl rfl | exact At.own' (i := 6) rfl rfl | exact At.own' (i := 7) rfl rfl | exact At.own' (i := 8) rfl rfl | exact At.own' (i := 9) rfl rfl | exact At.own' (i := 10) rfl rfl | exact At.own' (i := 11) rfl rfl | exact At.own' (i := 12) rfl rfl) rfl ?_
 refine TL.len hF rfl rfl ?_
 refine TL.add hF rfl rfl (by omega) (by omega) rfl ?_
 refine TL.bin hF rfl rfl rfl rfl ?_
 refine TL.move hF rfl rfl ?_
 refine TL.on rfl rfl rfl (decide_eq_false (by omega)) ?_
 refine TL.move hF rfl rfl ?_
 refine TL.on rfl rfl rfl (decide_eq_false (by omega)) ?_
 refine TL.len hF rfl rfl ?_
 refine TL.on rfl rfl rfl (decide_eq_false (by omega)) ?_
 refine TL.fieldAddr hF rfl rfl ?_
 refine TL.on rfl rfl rfl (decide_eq_false (by omega)) ?_
 refine TL.load hF rfl (by first | exact At.own' (i := 0) rfl rfl | exact At.own' (i := 1) rfl rfl | exact At.own' (i := 2) rfl rfl | exact At.own' (i := 3) rfl rfl | exact At.own' (i := 4) rfl rfl | exact At.own' (i := 5) rfl rfl | exact At.own' (i := 6) rfl rfl | exact At.own' (i := 7) rfl rfl | exact At.own' (i := 8) rfl rfl | exact At.own' (i := 9) rfl rfl | exact At.own' (i := 10) rfl rfl | exact At.own' (i := 11) rfl rfl | exact At.own' (i := 12) rfl rfl) rfl ?_
 refine TL.on rfl rfl rfl (decide_eq_false (by omega)) ?_
 refine TL.len hF rfl rfl ?_
 refine TL.on rfl rfl rfl (decide_eq_false (by omega)) ?_
 refine TL.fieldAddr hF rfl rfl ?_
 refine TL.on rfl rfl rfl (decide_eq_false (by omega)) ?_
 refine TL.load hF rfl (by first | exact At.own' (i := 0) rfl rfl | exact At.own' (i := 1) rfl rfl | exact At.own' (i := 2) rfl rfl | exact At.own' (i := 3) rfl rfl | exact At.own' (i := 4) rfl rfl | exact At.own' (i := 5) rfl rfl | exact At.own' (i := 6) rfl rfl | exact At.own' (i := 7) rfl rfl | exact At.own' (i := 8) rfl rfl | exact At.own' (i := 9) rfl rfl | exact At.own' (i := 10) rfl rfl | exact At.own' (i := 11) rfl rfl | exact At.own' (i := 12) rfl rfl) rfl ?_
 refine TL.on rfl rfl rfl (decide_eq_false (by omega)) ?_
 refine TL.len hF rfl rfl ?_
 refine TL.on rfl rfl rfl (decide_eq_false (by omega)) ?_
 refine TL.add hF rfl rfl (by omega) (by omega) rfl ?_
 refine TL.on rfl rfl rfl (decide_eq_false (by omega)) ?_
 refine TL.fieldAddr hF rfl rfl ?_
 refine TL.on rfl rfl rfl (decide_eq_false (by omega)) ?_
 refine TL.load hF rfl (by first | exact At.own' (i := 0) rfl rfl | exact At.own' (i := 1) rfl rfl | exact At.own' (i := 2) rfl rfl | exact At.own' (i := 3) rfl rfl | exact At.own' (i := 4) rfl rfl | exact At.own' (i := 5) rfl rfl | exact At.own' (i := 6) rfl rfl | exact At.own' (i := 7) rfl rfl | exact At.own' (i := 8) rfl rfl | exact At.own' (i := 9) rfl rfl | exact At.own' (i := 10) rfl rfl | exact At.own' (i := 11) rfl rfl | exact At.own' (i := 12) rfl rfl) rfl ?_
 refine TL.on rfl rfl rfl (decide_eq_false (by omega)) ?_
 refine TL.len hF rfl rfl ?_
 refine TL.on rfl rfl rfl (decide_eq_false (by omega)) ?_
 refine TL.add hF rfl rfl (by omega) (by omega) rfl ?_
 refine TL.on rfl rfl rfl (decide_eq_false (by omega)) ?_
 refine TL.bin hF rfl rfl rfl rfl ?_
 refine TL.pickF hF rfl (decide_eq_false (by omega)) rfl rfl ?_
 refine TL.nil ?_
 refine TQ.then_n ?_
 refine T.cond_f rfl (decide_eq_false (by omega)) ?_
 refine T.skip ?_
 refine TQ.then_n ?_
 refine T.seq ?_
 refine T.seq ?_
 refine T.region ?_
 refine TL.assign hF rfl rfl ?_
 refine TL.nil ?_
 refine TQ.then_n ?_
 refine T.block ?_
 refine T.loop (ι := Nat) (fun i => i ≤ now.length) (fun i => [(1, .slice oa old.length oc), (2, .slice na now.length nc), (3, ptr b3), (6, .bool false), (7, .int .i64 (i : Int))]) (fun _ => [(b3, Obj.cells (rhC x).toArray 48 (0, 0))] :: η) (fun i => now.length - i) 0 (Nat.zero_le _) ⟨rfl, rfl, rfl, rfl, rfl, trivial⟩ rfl ?_
 rintro i hi
 refine T.seq ?_
 refine T.seq ?_
 refine T.region ?_
 refine TL.move hF rfl rfl ?_
 refine TL.move hF rfl rfl ?_
 refine TL.len hF rfl rfl ?_
 refine TL.bin hF rfl rfl rfl rfl ?_
 refine TL.nil ?_
 refine TQ.then_n ?_
 first | refine T.cond_d rfl (fun ht48 => ?_) (fun ht48 => ?_) | refine T.cond _ rfl (fun ht48 => ?_) (fun ht48 => ?_)
 ·refine T.skip ?_
  refine TQ.then_n ?_
  refine T.seq ?_
  refine T.block ?_
  refine T.seq ?_
  refine T.region ?_
  refine TL.move hF rfl rfl ?_
  refine TL.move hF rfl rfl ?_
  have hil : i < now.length := by have h : (i : Int) < (now.length : Int) := ht48; omega
  have hq := hq1 _ (List.getElem_mem hil)
  refine TL.indexAddr hF rfl rfl (hn.ad hil) (by omega) (by omega) rfl ?_
  refine TL.fieldAddr hF rfl rfl ?_
  refine TL.loadA hF (kC now[i].nd.key) rfl rfl (hn.ro.keyAt hil) rfl ?_
  refine TL.alloc hF rfl (fun b8 => ?_)
  refine TL.storeAs hF (kC now[i].nd.key) (kC now[i].nd.key) 0 (cs := [.int .i64 0, .int .i64 0]) rfl rfl rfl rfl (kC1 _) (Nat.le_refl 2) rfl ?_
  refine TL.nil ?_
  refine TQ.then_n ?_
  refine T.seq ?_
  refine T.region ?_
  refine TL.move hF rfl rfl ?_
  refine TL.loadA hF (kC now[i].nd.key) rfl rfl (own_list (i := 0) (cs := kC now[i].nd.key) rfl) rfl ?_
  refine TL.call hF (node_fn (k := now[i].nd.key) ho (by omega)) rfl rfl ?_
  rintro _ _ ⟨y, hb, rfl, hy, rfl⟩
  refine TL.move hF rfl rfl ?_
  refine TL.extract hF rfl rfl rfl ?_
  refine TL.extract hF rfl rfl rfl ?_
  refine TL.alloc hF rfl (fun b9 => ?_)
  refine TL.storeAs hF (nhC y) (nhC y) 0 (cs := [.int .i64 0, .int .i64 0, .int .i64 0, .slice none 0 0]) rfl rfl rfl rfl (nhC1 _) (Nat.le_refl 4) rfl ?_
  refine TL.assign hF rfl rfl ?_
  refine TL.nil ?_
  refine TQ.then_n ?_
  refine T.seq ?_
  rcases Bool.eq_false_or_eq_true hb with hbt | hbt
  ·have hdy := (ho.item y (hy.1 hbt).1).row
   refine T.draw ?_
   refine DR.stepV [_] rfl [(10, _, none)] rfl rfl ⟨⟨rfl, by kernel_rfl⟩, trivial⟩ (fun ext => TL.move hF rfl rfl TL.fin) ?_
   refine DR.stepV [_, _] rfl [(62, _, some 0)] rfl rfl ⟨⟨rfl, rfl, rfl⟩, trivial⟩ (fun ext => TL.move hF rfl rfl TL.fin) ?_
   refine DR.stepV [_, _, _] rfl [(9, _, none), (63, _, some 1)] rfl rfl ⟨⟨rfl, by kernel_rfl⟩, ⟨rfl, rfl, rfl⟩, trivial⟩ (fun ext => TL.on rfl rfl rfl hbt <| TL.fieldAddr hF rfl rfl TL.fin) ?_
   refine DR.stepV [_, _, _, _] rfl [(64, _, some 2), (63, _, some 1)] rfl rfl ⟨⟨rfl, rfl, rfl⟩, ⟨rfl, rfl, rfl⟩, trivial⟩ (fun ext => TL.on rfl rfl rfl hbt <| TL.load hF rfl (own_mem (b := b9) (cs := (nhC y).toArray) (e := 43) (fz := (0, 0)) (by simp) rfl) rfl TL.fin) ?_
   refine DR.stepV [_, _, _, _, _] rfl [(2, _, none), (63, _, some 1)] rfl rfl ⟨⟨rfl, by kernel_rfl⟩, ⟨rfl, rfl, rfl⟩, trivial⟩ (fun ext => TL.on rfl rfl rfl hbt <| TL.move hF rfl rfl TL.fin) ?_
   refine DR.stepV [_, _, _, _, _, _] rfl [(7, _, none), (63, _, some 1)] rfl rfl ⟨⟨rfl, by kernel_rfl⟩, ⟨rfl, rfl, rfl⟩, trivial⟩ (fun ext => TL.on rfl rfl rfl hbt <| TL.move hF rfl rfl TL.fin) ?_
   refine DR.stepV [_, _, _, _, _, _, _] rfl [(66, _, some 4), (67, _, some 5), (63, _, some 1)] rfl rfl ⟨⟨rfl, rfl, rfl⟩, ⟨rfl, rfl, rfl⟩, ⟨rfl, rfl, rfl⟩, trivial⟩ (fun ext => TL.on rfl rfl rfl hbt <| TL.indexAddr hF rfl rfl (hn.ad hil) (by omega) (by omega) rfl TL.fin) ?_
   refine DR.stepV [_, _, _, _, _, _, _, _] rfl [(68, _, some 6), (63, _, some 1)] rfl rfl ⟨⟨rfl, rfl, rfl⟩, ⟨rfl, rfl, rfl⟩, trivial⟩ (fun ext => TL.on rfl rfl rfl hbt <| TL.fieldAddr hF rfl rfl TL.fin) ?_
   refine DR.stepV [_, _, _, _, _, _, _, _, _] rfl [(69, _, some 7), (63, _, some 1)] rfl rfl ⟨⟨rfl, rfl, rfl⟩, ⟨rfl, rfl, rfl⟩, trivial⟩ (fun ext => TL.on rfl rfl rfl hbt <| TL.load hF rfl (hn.ro.depsAt hil) rfl TL.fin) ?_
   refine DR.done [(70, _), (69, _), (68, _), (67, _), (66, _), (65, _), (64, _), (63, _), (62, _)] [_, _, _] mixed (by kernel_rfl) (by kernel_rfl) (by kernel_rfl) rfl rfl ?_
   refine TL.on rfl rfl rfl hbt ?_
   refine TL.callV hF (SameDeps_fn (Row.ro hdy) ((hn.it hil).row.ro) (by have := (ho.item y (hy.1 hbt).1).len; omega)) rfl rfl ?_
   refine TL.pickT hF rfl hbt rfl rfl ?_
   refine TL.assign hF rfl rfl ?_
   refine TL.nil ?_
   refine TQ.then_n ?_
   refine T.seq ?_
   refine T.region ?_
   refine TL.fieldAddr hF rfl rfl ?_
   refine TL.load hF rfl (by first | exact At.own' (i := 0) rfl rfl | exact At.own' (i := 1) rfl rfl | exact At.own' (i := 2) rfl rfl | exact At.own' (i := 3) rfl rfl | exact At.own' (i := 4) rfl rfl | exact At.own' (i := 5) rfl rfl | exact At.own' (i := 6) rfl rfl | exact At.own' (i := 7) rfl rfl | exact At.own' (i := 8) rfl rfl | exact At.own' (i := 9) rfl rfl | exact At.own' (i := 10) rfl rfl | exact At.own' (i := 11) rfl rfl | exact At.own' (i := 12) rfl rfl) rfl ?_
   refine TL.loadA hF (kC now[i].nd.key) rfl rfl (own_listM (b := b8) (cs := kC now[i].nd.key) (e := 25) (fz := (0, 0)) (by simp)) rfl ?_
   refine TL.callV hF (has_fn hx.r2 (by omega)) rfl rfl ?_
   refine TL.move hF rfl rfl ?_
   have hN : decide (now[i].nd.key ∈ x.r.new) = false := by have := hq.1; rw [show hasN (nds old) now[i].nd.key = true from by rw [← hy.has]; exact hbt] at this; simpa using this
   rw [hN, hbt]
   refine TL.eqlB hF rfl rfl rfl ?_
   refine TL.move hF rfl rfl ?_
   refine TL.on rfl rfl rfl rfl ?_
   refine TL.fieldAddr hF rfl rfl ?_
   refine TL.on rfl rfl rfl rfl ?_
   refine TL.load hF rfl (by first | exact At.own' (i := 0) rfl rfl | exact At.own' (i := 1) rfl rfl | exact At.own' (i := 2) rfl rfl | exact At.own' (i := 3) rfl rfl | exact At.own' (i := 4) rfl rfl | exact At.own' (i := 5) rfl rfl | exact At.own' (i := 6) rfl rfl | exact At.own' (i := 7) rfl rfl | exact At.own' (i := 8) rfl rfl | exact At.own' (i := 9) rfl rfl | exact At.own' (i := 10) rfl rfl | exact At.own' (i := 11) rfl rfl | exact At.own' (i := 12) rfl rfl) rfl ?_
   refine TL.on rfl rfl rfl rfl ?_
   refine TL.loadA hF (kC now[i].nd.key) rfl rfl (own_listM (b := b8) (cs := kC now[i].nd.key) (e := 25) (fz := (0, 0)) (by simp)) rfl ?_
   refine TL.on rfl rfl rfl rfl ?_
   refine TL.callV hF (has_fn hx.r3 (by omega)) rfl rfl ?_
   refine TL.on rfl rfl rfl rfl ?_
   refine TL.move hF rfl rfl ?_
   refine TL.on rfl rfl rfl rfl ?_
   have hf := (hy.1 hbt).2
   have hK : decide (now[i].nd.key ∈ x.r.kept) = decide (y.nd.deps = now[i].nd.deps) := by have := hq.2.1; unfold keptB at this; rw [hf] at this; simpa using this
   rw [hK]
   refine TL.neqB hF rfl rfl rfl ?_
   refine TL.pickF hF rfl rfl rfl rfl ?_
   refine TL.move hF rfl rfl ?_
   refine TL.on rfl rfl rfl (by simp) ?_
   refine TL.fieldAddr hF rfl rfl ?_
   refine TL.on rfl rfl rfl (by simp) ?_
   refine TL.load hF rfl (by first | exact At.own' (i := 0) rfl rfl | exact At.own' (i := 1) rfl rfl | exact At.own' (i := 2) rfl rfl | exact At.own' (i := 3) rfl rfl | exact At.own' (i := 4) rfl rfl | exact At.own' (i := 5) rfl rfl | exact At.own' (i := 6) rfl rfl | exact At.own' (i := 7) rfl rfl | exact At.own' (i := 8) rfl rfl | exact At.own' (i := 9) rfl rfl | exact At.own' (i := 10) rfl rfl | exact At.own' (i := 11) rfl rfl | exact At.own' (i := 12) rfl rfl) rfl ?_
   refine TL.on rfl rfl rfl (by simp) ?_
   refine TL.loadA hF (kC now[i].nd.key) rfl rfl (own_listM (b := b8) (cs := kC now[i].nd.key) (e := 25) (fz := (0, 0)) (by simp)) rfl ?_
   refine TL.on rfl rfl rfl (by simp) ?_
   refine TL.callV hF (has_fn hx.r1 (by omega)) rfl rfl ?_
   refine TL.on rfl rfl rfl (by simp) ?_
   refine TL.move hF rfl rfl ?_
   refine TL.on rfl rfl rfl (by simp) ?_
   refine TL.move hF rfl rfl ?_
   refine TL.on rfl rfl rfl rfl ?_
   refine TL.move hF rfl rfl ?_
   refine TL.on rfl rfl rfl rfl ?_
   refine TL.not hF rfl rfl ?_
   refine TL.on rfl rfl rfl (by simp) ?_
   refine TL.pickT hF rfl rfl rfl rfl ?_
   refine TL.on rfl rfl rfl (by simp) ?_
   have hA : decide (now[i].nd.key ∈ x.r.again) = !decide (y.nd.deps = now[i].nd.deps) := by have := hq.2.2; unfold againB at this; rw [hf] at this; simpa using this
   rw [hA]
   refine TL.neqB hF rfl rfl rfl ?_
   refine TL.pickF hF rfl (by simp) rfl rfl ?_
   refine TL.nil ?_
   refine TQ.then_n ?_
   refine T.cond_f rfl (by simp) ?_
   refine T.skip ?_
   refine TQ.block_n ?_
   refine TQ.then_n ?_
   refine T.region ?_
   refine TL.move hF rfl rfl ?_
   refine TL.add hF rfl rfl (by omega) (by omega) rfl ?_
   refine TL.assign hF rfl rfl ?_
   refine TL.nil ?_
   refine TQ.pop (TQ.pop ?_)
   refine TQ.round (i + 1) (by omega) (by omega) ⟨rfl, rfl, rfl, rfl, rfl, trivial⟩ rfl
  ·skip
   refine T.draw ?_
   refine DR.stepV [_] rfl [(10, _, none)] rfl rfl ⟨⟨rfl, by kernel_rfl⟩, trivial⟩ (fun ext => TL.move hF rfl rfl TL.fin) ?_
   refine DR.stepV [_, _] rfl [(62, _, some 0)] rfl rfl ⟨⟨rfl, rfl, rfl⟩, trivial⟩ (fun ext => TL.move hF rfl rfl TL.fin) ?_
   refine DR.stepV [_, _, _] rfl [(9, _, none), (63, _, some 1)] rfl rfl ⟨⟨rfl, by kernel_rfl⟩, ⟨rfl, rfl, rfl⟩, trivial⟩ (fun ext => TL.off hF rfl rfl rfl hbt rfl TL.fin) ?_
   refine DR.stepV [_, _, _, _] rfl [(64, _, some 2), (63, _, some 1)] rfl rfl ⟨⟨rfl, rfl, rfl⟩, ⟨rfl, rfl, rfl⟩, trivial⟩ (fun ext => TL.off hF rfl rfl rfl hbt rfl TL.fin) ?_
   refine DR.stepV [_, _, _, _, _] rfl [(2, _, none), (63, _, some 1)] rfl rfl ⟨⟨rfl, by kernel_rfl⟩, ⟨rfl, rfl, rfl⟩, trivial⟩ (fun ext => TL.off hF rfl rfl rfl hbt rfl TL.fin) ?_
   refine DR.stepV [_, _, _, _, _, _] rfl [(7, _, none), (63, _, some 1)] rfl rfl ⟨⟨rfl, by kernel_rfl⟩, ⟨rfl, rfl, rfl⟩, trivial⟩ (fun ext => TL.off hF rfl rfl rfl hbt rfl TL.fin) ?_
   refine DR.stepV [_, _, _, _, _, _, _] rfl [(66, _, some 4), (67, _, some 5), (63, _, some 1)] rfl rfl ⟨⟨rfl, rfl, rfl⟩, ⟨rfl, rfl, rfl⟩, ⟨rfl, rfl, rfl⟩, trivial⟩ (fun ext => TL.off hF rfl rfl rfl hbt rfl TL.fin) ?_
   refine DR.stepV [_, _, _, _, _, _, _, _] rfl [(68, _, some 6), (63, _, some 1)] rfl rfl ⟨⟨rfl, rfl, rfl⟩, ⟨rfl, rfl, rfl⟩, trivial⟩ (fun ext => TL.off hF rfl rfl rfl hbt rfl TL.fin) ?_
   refine DR.stepV [_, _, _, _, _, _, _, _, _] rfl [(69, _, some 7), (63, _, some 1)] rfl rfl ⟨⟨rfl, rfl, rfl⟩, ⟨rfl, rfl, rfl⟩, trivial⟩ (fun ext => TL.off hF rfl rfl rfl hbt rfl TL.fin) ?_
   refine DR.done [(70, _), (69, _), (68, _), (67, _), (66, _), (65, _), (64, _), (63, _), (62, _)] [_, _, _] mixed (by kernel_rfl) (by kernel_rfl) (by kernel_rfl) rfl rfl ?_
   refine TL.off hF rfl rfl rfl hbt rfl ?_
   refine TL.pickF hF rfl hbt rfl rfl ?_
   refine TL.assign hF rfl rfl ?_
   refine TL.nil ?_
   refine TQ.then_n ?_
   refine T.seq ?_
   refine T.region ?_
   refine TL.fieldAddr hF rfl rfl ?_
   refine TL.load hF rfl (by first | exact At.own' (i := 0) rfl rfl | exact At.own' (i := 1) rfl rfl | exact At.own' (i := 2) rfl rfl | exact At.own' (i := 3) rfl rfl | exact At.own' (i := 4) rfl rfl | exact At.own' (i := 5) rfl rfl | exact At.own' (i := 6) rfl rfl | exact At.own' (i := 7) rfl rfl | exact At.own' (i := 8) rfl rfl | exact At.own' (i := 9) rfl rfl | exact At.own' (i := 10) rfl rfl | exact At.own' (i := 11) rfl rfl | exact At.own' (i := 12) rfl rfl) rfl ?_
   refine TL.loadA hF (kC now[i].nd.key) rfl rfl (own_listM (b := b8) (cs := kC now[i].nd.key) (e := 25) (fz := (0, 0)) (by simp)) rfl ?_
   refine TL.callV hF (has_fn hx.r2 (by omega)) rfl rfl ?_
   refine TL.move hF rfl rfl ?_
   have hN : decide (now[i].nd.key ∈ x.r.new) = true := by have := hq.1; rw [show hasN (nds old) now[i].nd.key = false from by rw [← hy.has]; exact hbt] at this; simpa using this
   rw [hN, hbt]
   refine TL.eqlB hF rfl rfl rfl ?_
   refine TL.move hF rfl rfl ?_
   refine TL.on rfl rfl rfl rfl ?_
   refine TL.fieldAddr hF rfl rfl ?_
   refine TL.on rfl rfl rfl rfl ?_
   refine TL.load hF rfl (by first | exact At.own' (i := 0) rfl rfl | exact At.own' (i := 1) rfl rfl | exact At.own' (i := 2) rfl rfl | exact At.own' (i := 3) rfl rfl | exact At.own' (i := 4) rfl rfl | exact At.own' (i := 5) rfl rfl | exact At.own' (i := 6) rfl rfl | exact At.own' (i := 7) rfl rfl | exact At.own' (i := 8) rfl rfl | exact At.own' (i := 9) rfl rfl | exact At.own' (i := 10) rfl rfl | exact At.own' (i := 11) rfl rfl | exact At.own' (i := 12) rfl rfl) rfl ?_
   refine TL.on rfl rfl rfl rfl ?_
   refine TL.loadA hF (kC now[i].nd.key) rfl rfl (own_listM (b := b8) (cs := kC now[i].nd.key) (e := 25) (fz := (0, 0)) (by simp)) rfl ?_
   refine TL.on rfl rfl rfl rfl ?_
   refine TL.callV hF (has_fn hx.r3 (by omega)) rfl rfl ?_
   refine TL.on rfl rfl rfl rfl ?_
   refine TL.move hF rfl rfl ?_
   refine TL.on rfl rfl rfl rfl ?_
   have hf := (hy.2 hbt).1
   have hK : decide (now[i].nd.key ∈ x.r.kept) = false := by have := hq.2.1; unfold keptB at this; rw [hf] at this; simpa using this
   rw [hK]
   refine TL.neqB hF rfl rfl rfl ?_
   refine TL.pickF hF rfl rfl rfl rfl ?_
   refine TL.move hF rfl rfl ?_
   refine TL.on rfl rfl rfl rfl ?_
   refine TL.fieldAddr hF rfl rfl ?_
   refine TL.on rfl rfl rfl rfl ?_
   refine TL.load hF rfl (by first | exact At.own' (i := 0) rfl rfl | exact At.own' (i := 1) rfl rfl | exact At.own' (i := 2) rfl rfl | exact At.own' (i := 3) rfl rfl | exact At.own' (i := 4) rfl rfl | exact At.own' (i := 5) rfl rfl | exact At.own' (i := 6) rfl rfl | exact At.own' (i := 7) rfl rfl | exact At.own' (i := 8) rfl rfl | exact At.own' (i := 9) rfl rfl | exact At.own' (i := 10) rfl rfl | exact At.own' (i := 11) rfl rfl | exact At.own' (i := 12) rfl rfl) rfl ?_
   refine TL.on rfl rfl rfl rfl ?_
   refine TL.loadA hF (kC now[i].nd.key) rfl rfl (own_listM (b := b8) (cs := kC now[i].nd.key) (e := 25) (fz := (0, 0)) (by simp)) rfl ?_
   refine TL.on rfl rfl rfl rfl ?_
   refine TL.callV hF (has_fn hx.r1 (by omega)) rfl rfl ?_
   refine TL.on rfl rfl rfl rfl ?_
   refine TL.move hF rfl rfl ?_
   refine TL.on rfl rfl rfl rfl ?_
   refine TL.move hF rfl rfl ?_
   refine TL.off hF rfl rfl rfl rfl rfl ?_
   refine TL.off hF rfl rfl rfl rfl rfl ?_
   refine TL.on rfl rfl rfl rfl ?_
   refine TL.pickF hF rfl rfl rfl rfl ?_
   refine TL.on rfl rfl rfl rfl ?_
   have hA : decide (now[i].nd.key ∈ x.r.again) = false := by have := hq.2.2; unfold againB at this; rw [hf] at this; simpa using this
   rw [hA]
   refine TL.neqB hF rfl rfl rfl ?_
   refine TL.pickF hF rfl rfl rfl rfl ?_
   refine TL.nil ?_
   refine TQ.then_n ?_
   refine T.cond_f rfl rfl ?_
   refine T.skip ?_
   refine TQ.block_n ?_
   refine TQ.then_n ?_
   refine T.region ?_
   refine TL.move hF rfl rfl ?_
   refine TL.add hF rfl rfl (by omega) (by omega) rfl ?_
   refine TL.assign hF rfl rfl ?_
   refine TL.nil ?_
   refine TQ.pop (TQ.pop ?_)
   refine TQ.round (i + 1) (by omega) (by omega) ⟨rfl, rfl, rfl, rfl, rfl, trivial⟩ rfl
 ·refine T.exit ?_
  refine TQ.then_x ?_
  refine TQ.then_x ?_
  refine TQ.block_x ?_
  refine TQ.then_n ?_
  refine T.seq ?_
  refine T.seq ?_
  refine T.region ?_
  refine TL.assign hF rfl rfl ?_
  refine TL.nil ?_
  refine TQ.then_n ?_
  refine T.block ?_
  refine T.loop (ι := Nat) (fun i => i ≤ old.length) (fun i => [(1, .slice oa old.length oc), (2, .slice na now.length nc), (3, ptr b3), (6, .bool false), (12, .int .i64 (i : Int))]) (fun _ => [(b3, Obj.cells (rhC x).toArray 48 (0, 0))] :: η) (fun i => old.length - i) 0 (Nat.zero_le _) ⟨rfl, rfl, rfl, rfl, rfl, trivial⟩ rfl ?_
  rintro i hi
  refine T.seq ?_
  refine T.seq ?_
  refine T.region ?_
  refine TL.move hF rfl rfl ?_
  refine TL.move hF rfl rfl ?_
  refine TL.len hF rfl rfl ?_
  refine TL.bin hF rfl rfl rfl rfl ?_
  refine TL.nil ?_
  refine TQ.then_n ?_
  first | refine T.cond_d rfl (fun ht102 => ?_) (fun ht102 => ?_) | refine T.cond _ rfl (fun ht102 => ?_) (fun ht102 => ?_)
  ·refine T.skip ?_
   refine TQ.then_n ?_
   refine T.seq ?_
   refine T.block ?_
   refine T.seq ?_
   refine T.region ?_
   refine TL.move hF rfl rfl ?_
   refine TL.move hF rfl rfl ?_
   refine TL.move hF rfl rfl ?_
   have hil : i < old.length := by have h : (i : Int) < (old.length : Int) := ht102; omega
   have hq := hq2 _ (List.getElem_mem hil)
   refine TL.indexAddr hF rfl rfl (ho.ad hil) (by omega) (by omega) rfl ?_
   refine TL.fieldAddr hF rfl rfl ?_
   refine TL.loadA hF (kC old[i].nd.key) rfl rfl (ho.ro.keyAt hil) rfl ?_
   refine TL.call hF (node_fn (k := old[i].nd.key) hn (by omega)) rfl rfl ?_
   rintro _ _ ⟨y, hb, rfl, hy, rfl⟩
   refine TL.move hF rfl rfl ?_
   refine TL.extract hF rfl rfl rfl ?_
   refine TL.extract hF rfl rfl rfl ?_
   refine TL.alloc hF rfl (fun b13 => ?_)
   refine TL.storeAs hF (nhC y) (nhC y) 0 (cs := [.int .i64 0, .int .i64 0, .int .i64 0, .slice none 0 0]) rfl rfl rfl rfl (nhC1 _) (Nat.le_refl 4) rfl ?_
   refine TL.assign hF rfl rfl ?_
   refine TL.nil ?_
   refine TQ.then_n ?_
   refine T.seq ?_
   refine T.draw ?_
   refine DR.stepV [_] rfl [(3, _, none)] rfl rfl ⟨⟨rfl, by kernel_rfl⟩, trivial⟩ (fun ext => TL.fieldAddr hF rfl rfl TL.fin) ?_
   refine DR.stepV [_, _] rfl [(115, _, some 0)] rfl rfl ⟨⟨rfl, rfl, rfl⟩, trivial⟩ (fun ext => TL.load hF rfl (by first | exact At.own' (i := 0) rfl rfl | exact At.own' (i := 1) rfl rfl | exact At.own' (i := 2) rfl rfl | exact At.own' (i := 3) rfl rfl | exact At.own' (i := 4) rfl rfl | exact At.own' (i := 5) rfl rfl | exact At.own' (i := 6) rfl rfl | exact At.own' (i := 7) rfl rfl | exact At.own' (i := 8) rfl rfl | exact At.own' (i := 9) rfl rfl | exact At.own' (i := 10) rfl rfl | exact At.own' (i := 11) rfl rfl | exact At.own' (i := 12) rfl rfl) rfl TL.fin) ?_
   refine DR.stepV [_, _, _] rfl [(1, _, none)] rfl rfl ⟨⟨rfl, by kernel_rfl⟩, trivial⟩ (fun ext => TL.move hF rfl rfl TL.fin) ?_
   refine DR.stepV [_, _, _, _] rfl [(12, _, none)] rfl rfl ⟨⟨rfl, by kernel_rfl⟩, trivial⟩ (fun ext => TL.move hF rfl rfl TL.fin) ?_
   refine DR.stepV [_, _, _, _, _] rfl [(117, _, some 2), (118, _, some 3)] rfl rfl ⟨⟨rfl, rfl, rfl⟩, ⟨rfl, rfl, rfl⟩, trivial⟩ (fun ext => TL.indexAddr hF rfl rfl (ho.ad hil) (by omega) (by omega) rfl TL.fin) ?_
   refine DR.stepV [_, _, _, _, _, _] rfl [(119, _, some 4)] rfl rfl ⟨⟨rfl, rfl, rfl⟩, trivial⟩ (fun ext => TL.fieldAddr hF rfl rfl TL.fin) ?_
   refine DR.stepV [_, _, _, _, _, _, _] rfl [(120, _, some 5)] rfl rfl ⟨⟨rfl, rfl, rfl⟩, trivial⟩ (fun ext => TL.loadA hF (kC old[i].nd.key) rfl rfl (ho.ro.keyAt hil) rfl TL.fin) ?_
   refine DR.stepV [_, _, _, _, _, _, _, _] rfl [(116, _, some 1), (121, _, some 6)] rfl rfl ⟨⟨rfl, rfl, rfl⟩, ⟨rfl, rfl, rfl⟩, trivial⟩ (fun ext => TL.callV hF (has_fn hx.r4 (by omega)) rfl rfl TL.fin) ?_
   refine DR.stepV [_, _, _, _, _, _, _, _, _] rfl [(14, _, none)] rfl rfl ⟨⟨rfl, by kernel_rfl⟩, trivial⟩ (fun ext => TL.move hF rfl rfl TL.fin) ?_
   refine DR.done [(123, _), (122, _), (121, _), (120, _), (119, _), (118, _), (117, _), (116, _), (115, _)] [_] mixed (by kernel_rfl) (by kernel_rfl) (by kernel_rfl) rfl rfl ?_
   refine TL.eqlB hF rfl rfl rfl ?_
   refine TL.nil ?_
   refine TQ.then_n ?_
   refine T.cond_f rfl (by rw [hy.has]; have := hq; revert this; cases decide (old[i].nd.key ∈ x.r.dropped) <;> cases hasN (nds now) old[i].nd.key <;> simp) ?_
   refine T.skip ?_
   refine TQ.block_n ?_
   refine TQ.then_n ?_
   refine T.region ?_
   refine TL.move hF rfl rfl ?_
   refine TL.add hF rfl rfl (by omega) (by omega) rfl ?_
   refine TL.assign hF rfl rfl ?_
   refine TL.nil ?_
   refine TQ.pop ?_
   refine TQ.round (i + 1) (by omega) (by omega) ⟨rfl, rfl, rfl, rfl, rfl, trivial⟩ rfl
  ·refine T.exit ?_
   refine TQ.then_x ?_
   refine TQ.then_x ?_
   refine TQ.block_x ?_
   refine TQ.then_n ?_
   refine T.seq ?_
   refine T.region ?_
   refine TL.assign hF rfl rfl ?_
   refine TL.nil ?_
   refine TQ.then_n ?_
   refine T.ret ?_
   refine TQ.pop ?_
   refine TQ.rets [6] _ rfl rfl rfl ?_
   exact ⟨rfl, rfl⟩
end Go.Proofs.YtdiacobmhkmljaaDoor
/- What the arguments of the laws hold; the tables that the program's start lays. -/
namespace Go.Proofs.YtdiacobmhkmljaaDoor
open Go.Sl Go.ChangeShapes Go.WideShapes Go.ChangeAt Go.Deep Go.RowKit
section
variable {H : Type} {enc : TypeId × Value → H} {W : World}
theorem list1 {l : List Value} (h : l.length = 1) : ∃ a, l = [a] := by
  match l, h with
  | [a], _ => exact ⟨a, rfl⟩
theorem u3 : Tryd.prog.underlying 3 = some (.int .i64) := by kernel_rfl
theorem u4 : Tryd.prog.underlying 4 = some .bool := by kernel_rfl
theorem u22 : Tryd.prog.underlying 22 = some (.slice 3) := by kernel_rfl
theorem u126 : Tryd.prog.underlying 126 = some (.array 7 3) := by kernel_rfl
theorem u133 : Tryd.prog.underlying 133 = some (.array 10 132) := by kernel_rfl
theorem k3 : Tryd.prog.cellsOf 3 = 1 := by kernel_rfl
theorem k132 : Tryd.prog.cellsOf 132 = 1 := by kernel_rfl
theorem ints_arg {fuel : Nat} {v : Value} {y : DataW H × List MemPlace} (h : DataW.trod enc Tryd.prog W 0 (fun _ => true) true fuel 22 [v] = some y) :
    ∃ (a : Option Addr) (l : List Int) (cap : Nat), v = .slice a l.length cap ∧ Row (Old W) W [] a (ints l) ∧ l.length < 9223372036854775808 ∧ ∀ x ∈ l, I64 x := by
  obtain ⟨a, xs, c, e2, hm, hrow, hx⟩ := ints_read u22 u3 k3 h
  exact ⟨a, xs, c, e2, hrow, by unfold maxLen at hm; omega, fun x hxm => wf_i64 (hx x hxm)⟩
end
theorem Tryd.own : ownKnob Tryd.prog.godebug = none := by kernel_rfl
theorem Tryd.laidOut : laidOutB Tryd.prog = true := by kernel_rfl
theorem gParts : Tryd.prog.globalNamed "deltaworks/trace.parts" = some 0 := by kernel_rfl
theorem tParts : (Tryd.prog.globals[0]?).map (·.type) = some 126 := by kernel_rfl
theorem gWords : Tryd.prog.globalNamed "deltaworks/trace.words" = some 1 := by kernel_rfl
theorem tWords : (Tryd.prog.globals[1]?).map (·.type) = some 133 := by kernel_rfl
abbrev laidL : List (String × DataW Unit) := [("deltaworks/trace.words", Rows.laid_deltaworks_trace_words), ("deltaworks/trace.parts", Rows.laid_deltaworks_trace_parts)]
theorem door_met (os : Os) (args : Array Value) : laidMetH Tryd.prog laidL ((World.doorLaid Tryd.prog 2000 os).forCall (fun _ _ => 0) ⟨#[], args, []⟩).memory :=
  laidMetH_of_parts3 (fuel := 8) (laidMet_of_run' 8 (by kernel_rfl) (by kernel_rfl)) (by kernel_rfl) (by kernel_rfl)
theorem op_read {W : World} {m f0 : Nat} {cs : List Value} {y : DataW (List UInt8) × List MemPlace} {c : UInt8} {r : List UInt8} (hone : ((List.range Tryd.prog.funcs.size).filter fun f => (Tryd.prog.funcs[f]?).any (·.name.toUTF8.data.toList == c :: r)) = [f0])
    (hl : cs.length = 1) (h : DataW.trod (funcToken Tryd.prog) Tryd.prog W 0 (fun _ => true) true m 132 cs = some y) (hy : y.1 = .held (c :: r)) : cs = [.func (.func f0) #[] #[]] := by
  obtain ⟨c0, rfl⟩ := list1 hl
  obtain ⟨d2, q2⟩ := y
  simp only at hy
  subst hy
  rw [Go.func_of_trod Tryd.underlying132 hone h]
theorem parts_of_laid {W : World} (h : laidMetH Tryd.prog laidL W) : ∀ o : Nat, o < 7 → At (Old W) W [] ⟨0, o, none⟩ (.int .i64 (partsS o)) := by
  have hp : laidMet Tryd.prog [("deltaworks/trace.parts", Rows.laid_deltaworks_trace_parts)] W := (show laidMet Tryd.prog _ W ∧ handlesMet Tryd.prog _ W from h).1
  obtain ⟨ps, ⟨g, t, cs, f1, p1, q1, hg, ht, hv, hd, _, _⟩, _, _⟩ := hp
  obtain rfl := Option.some.inj (gParts.symm.trans hg)
  obtain rfl := Option.some.inj (tParts.symm.trans ht)
  obtain ⟨xs, m, rfl, hx1, hlen, hn, hel⟩ := DataW.trod_array u126 hd
  rw [k3] at hel
  simp only [Prod.mk.injEq, Rows.laid_deltaworks_trace_parts, DataW.agg.injEq] at hx1
  obtain ⟨hx, _⟩ := hx1
  match xs, hn, hx, hel with
  | [x0, x1, x2, x3, x4, x5, x6], _, hx, hel =>
    simp only [List.map_cons, List.map_nil, List.cons.injEq, and_true] at hx
    obtain ⟨q0, q1, q2, q3, q4, q5, q6⟩ := hx
    have rd : ∀ {i : Nat} {x : DataW Unit × List MemPlace} {z : Int}, DataW.trod (fun _ => ()) Tryd.prog W 0 (fun _ => true) false m 3 ((cs.toList.drop (i * 1)).take 1) = some x → .lit (.int .i64 z) = x.1 → (cs.toList.drop (i * 1)).take 1 = [.int .i64 z] := by
      intro i x z h1 h2
      obtain ⟨n, e1, e2, _⟩ := DataW.trod_int u3 h1
      rw [e2] at h2
      simp only [DataW.lit.injEq, Lit.int.injEq, true_and] at h2
      rw [e1, h2]
    intro o ho
    have key : (cs.toList.drop (o * 1)).take 1 = [.int .i64 (partsS o)] := by
      have : o = 0 ∨ o = 1 ∨ o = 2 ∨ o = 3 ∨ o = 4 ∨ o = 5 ∨ o = 6 := by omega
      rcases this with rfl | rfl | rfl | rfl | rfl | rfl | rfl
      · exact rd (hel 0 (by decide)) q0
      · exact rd (hel 1 (by decide)) q1
      · exact rd (hel 2 (by decide)) q2
      · exact rd (hel 3 (by decide)) q3
      · exact rd (hel 4 (by decide)) q4
      · exact rd (hel 5 (by decide)) q5
      · exact rd (hel 6 (by decide)) q6
    have hcell : W.cell? ⟨0, o, none⟩ = some (.int .i64 (partsS o)) := by
      have h2 : ((cs.toList.drop (o * 1)).take 1)[0]? = some (.int .i64 (partsS o)) := by rw [key]; rfl
      rw [List.getElem?_take, if_pos (by decide), List.getElem?_drop] at h2
      have := World.var?_cell hg hv o
      rw [this, ← Array.getElem?_toList]
      simpa using h2
    exact .rd (cell_lt hcell).1 hcell
theorem words_of_laid {W : World} (h : laidMetH Tryd.prog laidL W) : ∀ o : Nat, o < 10 → At (Old W) W [] ⟨1, o, none⟩ (opV o) := by
  obtain ⟨g, t, cs, fuel, p, hg, ht, hv, hd⟩ := h.funcs (n := "deltaworks/trace.words") (List.mem_cons_self ..)
  obtain rfl := Option.some.inj (gWords.symm.trans hg)
  obtain rfl := Option.some.inj (tWords.symm.trans ht)
  obtain ⟨xs, m, rfl, hx1, hlen, hn, hel⟩ := DataW.trod_array u133 hd
  have hlen : cs.toList.length = 10 := hlen.trans (by kernel_rfl)
  rw [k132] at hel
  simp only [Prod.mk.injEq, DataW.funcsOut, DataW.funcsOutAll, DataW.agg.injEq] at hx1
  obtain ⟨hx, _⟩ := hx1
  match xs, hn, hx, hel with
  | [x0, x1, x2, x3, x4, x5, x6, x7, x8, x9], _, hx, hel =>
    simp only [List.map_cons, List.map_nil, List.cons.injEq, and_true] at hx
    obtain ⟨q0, q1, q2, q3, q4, q5, q6, q7, q8, q9⟩ := hx
    have ln : ∀ i, i < 10 → ((cs.toList.drop (i * 1)).take 1).length = 1 := by
      intro i hi
      rw [List.length_take, List.length_drop, hlen]; omega
    intro o ho
    have key : (cs.toList.drop (o * 1)).take 1 = [opV o] := by
      rcases ten ho with rfl | rfl | rfl | rfl | rfl | rfl | rfl | rfl | rfl | rfl
      · exact op_read (f0 := 116) (by kernel_rfl) (ln 0 (by decide)) (hel 0 (by decide)) q0.symm
      · exact op_read (f0 := 120) (by kernel_rfl) (ln 1 (by decide)) (hel 1 (by decide)) q1.symm
      · exact op_read (f0 := 121) (by kernel_rfl) (ln 2 (by decide)) (hel 2 (by decide)) q2.symm
      · exact op_read (f0 := 122) (by kernel_rfl) (ln 3 (by decide)) (hel 3 (by decide)) q3.symm
      · exact op_read (f0 := 123) (by kernel_rfl) (ln 4 (by decide)) (hel 4 (by decide)) q4.symm
      · exact op_read (f0 := 124) (by kernel_rfl) (ln 5 (by decide)) (hel 5 (by decide)) q5.symm
      · exact op_read (f0 := 125) (by kernel_rfl) (ln 6 (by decide)) (hel 6 (by decide)) q6.symm
      · exact op_read (f0 := 126) (by kernel_rfl) (ln 7 (by decide)) (hel 7 (by decide)) q7.symm
      · exact op_read (f0 := 127) (by kernel_rfl) (ln 8 (by decide)) (hel 8 (by decide)) q8.symm
      · exact op_read (f0 := 128) (by kernel_rfl) (ln 9 (by decide)) (hel 9 (by decide)) q9.symm
    have hcell : W.cell? ⟨1, o, none⟩ = some (opV o) := by
      have h2 : ((cs.toList.drop (o * 1)).take 1)[0]? = some (opV o) := by rw [key]; rfl
      rw [List.getElem?_take, if_pos (by decide), List.getElem?_drop] at h2
      have := World.var?_cell hg hv o
      rw [this, ← Array.getElem?_toList]
      simpa using h2
    exact .rd (cell_lt hcell).1 hcell
theorem tabs_of_laid {W : World} (h : laidMetH Tryd.prog laidL W) : Tabs (Old W) W := ⟨parts_of_laid h, words_of_laid h⟩
end Go.Proofs.YtdiacobmhkmljaaDoor
