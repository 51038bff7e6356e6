/- Several texts in one. -/
import Derived.Test.YtdiacobmhkmljaaDoorKe
import Derived.Test.YtdiacobmhkmljaaDoorKb
import Derived.Test.YtdiacobmhkmljaaDoorRows
import Derived.LaidMore
import Derived.OpenShut
import Derived.Deep.Strs
import Derived.Stop.Joined
/- The chapter's functions; what all laws end with. -/
namespace Go.Proofs.YtdiacobmhkmljaaDoor
open Go.Sl
variable {S:Nat→Prop} {w0:World} {η:Heap}
theorem tr_own {b:Nat} {op n:Int} {c:Nat} {l:List TE} (h:[(b,Obj.cells (l.flatMap teC).toArray 72 (0,0))]∈η) (hc:l.length≤c) (hl:l.length<9223372036854775808) (hp:∀ y∈l,Tr S w0 η y):Tr S w0 η (.nd op n (some ⟨b,0,none⟩) c l) :=
 tr_iff.2 ⟨⟨row_own (e:=72) h,hc,hl⟩,hp⟩
theorem RL.frz {S':Nat→Prop} {w1:World} {ηr:Heap} {a:Option Addr} {l:List RH} (h:RL S w0 ηr a l) (hz:Frz S S' w0 w1 ηr):RL S' w1 [] a l:=h.map fun _ _ hr=>hr.frz hz
theorem RL.old {S':Nat→Prop} {w1:World} {ηr:Heap} {a:Option Addr} {l:List RH} (h:RL S w0 [] a l) (hz:Frz S S' w0 w1 ηr):RL S' w1 [] a l:=h.map fun _ _ hr=>hr.old hz
theorem RL.up {η':Heap} {a:Option Addr} {l:List RH} (h:RL S w0 η a l) (hs:∀ s∈η,s∈η'):RL S w0 η' a l:=h.map fun _ _ hr=>hr.up hs
theorem RL.ro {η':Heap} {a:Option Addr} {l:List RH} (h:RL S w0 [] a l):RL S w0 η' a l:=h.up (by simp)
theorem RL.atA {a:Option Addr} {l:List RH} (h:RL S w0 η a l) {i:Nat} (hi:i<l.length):∀ j v,(rhC l[i])[j]?=some v→At S w0 η ⟨(sAt a (i*5)).block,(sAt a (i*5)).off+j,Option.none⟩ v:=h.row.tabA rhC_len hi
theorem RL.ad {a:Option Addr} {l:List RH} (h:RL S w0 η a l) {i:Nat} (hi:i<l.length):∃ ad,a=some ad∧ad.spot=Option.none:=h.row.tad rhC_len (by decide) hi
theorem GL.frz {α:Type} {enc:α→List Value} {S':Nat→Prop} {w1:World} {ηr:Heap} {a:Option Addr} {ps:List (GH α)} (h:GL enc S w0 ηr a ps) (hz:Frz S S' w0 w1 ηr):GL enc S' w1 [] a ps:=⟨h.row.frz hz,fun p hp=>(h.item p hp).frz hz⟩
theorem GL.old {α:Type} {enc:α→List Value} {S':Nat→Prop} {w1:World} {ηr:Heap} {a:Option Addr} {ps:List (GH α)} (h:GL enc S w0 [] a ps) (hz:Frz S S' w0 w1 ηr):GL enc S' w1 [] a ps:=⟨h.row.old hz,fun p hp=>(h.item p hp).old hz⟩
/-- The chapter's functions, as memory holds them. -/
def sumT (l1 b3 l2 b6 b8:Nat):TE:=.nd 3 0 (some ⟨b8,0,none⟩) 2 [.nd 2 0 (some ⟨b3,0,none⟩) 1 [lessT l1 1],.nd 6 0 (some ⟨b6,0,none⟩) 1 [lessT l2 1]]
def f0T (l1 b3 l2 b6 b8 b13:Nat):TE:=.nd 5 0 (some ⟨b13,0,none⟩) 3 [.nd 1 0 none 0 [],sumT l1 b3 l2 b6 b8,.nd 0 0 none 0 []]
def f1T (l3 b17 b19:Nat):TE:=.nd 4 0 (some ⟨b19,0,none⟩) 2 [.nd 0 10 none 0 [],.nd 6 0 (some ⟨b17,0,none⟩) 1 [lessT l3 1]]
set_option maxHeartbeats 2000000 in
theorem functions_fn  :
  Rt Tryd.prog 30 [].toArray S w0 η (fun v η'=>∃ a c fl segs,v = .slice a fl.length c∧Fs S w0 segs a fl∧fl.map TE.ex=funsF∧η'=segs++η):=by
 have hF:=open_wide
 refine Rt.of (fn:=Tryd.f30) Tryd.func30 rfl rfl ?_
 refine T.seq ?_
 refine T.region ?_
 refine TL.assign hF rfl rfl ?_
 refine TL.nil ?_
 refine TQ.then_n ?_
 refine T.seq ?_
 refine T.region ?_
 refine TL.call hF (less_fn 1) rfl rfl ?_
 rintro _ _ ⟨l1,rfl,rfl⟩
 refine TL.buildSlice hF rfl (cs:=(([lessT l1 1]:List TE).flatMap teC).toArray) (e:=72) (fun w=>by kernel_rfl) rfl (fun c3=>?_)
 refine TL.callV hF (of_fn) rfl rfl ?_
 refine TL.call hF (less_fn 1) rfl rfl ?_
 rintro _ _ ⟨l2,rfl,rfl⟩
 refine TL.buildSlice hF rfl (cs:=(([lessT l2 1]:List TE).flatMap teC).toArray) (e:=72) (fun w=>by kernel_rfl) rfl (fun c6=>?_)
 refine TL.callV hF (of_fn) rfl rfl ?_
 refine TL.buildSlice hF rfl (cs:=(([.nd 2 0 (some ⟨c3,0,none⟩) 1 [lessT l1 1],.nd 6 0 (some ⟨c6,0,none⟩) 1 [lessT l2 1]]:List TE).flatMap teC).toArray) (e:=72) (fun w=>by kernel_rfl) rfl (fun c8=>?_)
 refine TL.callV hF (of_fn) rfl rfl ?_
 refine TL.alloc hF rfl (fun b1=>?_)
 refine TL.storeAI hF (teC (sumT l1 c3 l2 c6 c8)) 0 rfl rfl rfl rfl (teC1 _) (by simp [Value.cells,teC]) ?_
 refine TL.nil ?_
 refine TQ.then_n ?_
 refine T.seq ?_
 refine T.draw ?_
 refine DR.stepV [_] rfl [] rfl rfl trivial (fun ext=>TL.callV hF (of_fn) rfl rfl TL.fin) ?_
 refine DR.stepV [_,_] rfl [(1,_,none)] rfl rfl ⟨⟨rfl,by kernel_rfl⟩,trivial⟩ (fun ext=>TL.loadA hF (teC (sumT l1 c3 l2 c6 c8)) rfl rfl (own_list (i:=0) (cs:=teC (sumT l1 c3 l2 c6 c8)) rfl) rfl TL.fin) ?_
 refine DR.stepV [_,_,_] rfl [] rfl rfl trivial (fun ext=>TL.callV hF (of_fn) rfl rfl TL.fin) ?_
 refine DR.done [(12,_),(11,_),(10,_)] [_,_,_,_,_,_,_,_,_,_] mixed (by kernel_rfl) (by kernel_rfl) (by kernel_rfl) rfl rfl ?_
 refine TL.buildSlice hF rfl (cs:=(([.nd 1 0 none 0 [],sumT l1 c3 l2 c6 c8,.nd 0 0 none 0 []]:List TE).flatMap teC).toArray) (e:=72) (fun w=>by kernel_rfl) rfl (fun c13=>?_)
 refine TL.callV hF (of_fn) rfl rfl ?_
 refine TL.callV hF (of_fn) rfl rfl ?_
 refine TL.call hF (less_fn 1) rfl rfl ?_
 rintro _ _ ⟨l3,rfl,rfl⟩
 refine TL.buildSlice hF rfl (cs:=(([lessT l3 1]:List TE).flatMap teC).toArray) (e:=72) (fun w=>by kernel_rfl) rfl (fun c17=>?_)
 refine TL.callV hF (of_fn) rfl rfl ?_
 refine TL.buildSlice hF rfl (cs:=(([.nd 0 10 none 0 [],.nd 6 0 (some ⟨c17,0,none⟩) 1 [lessT l3 1]]:List TE).flatMap teC).toArray) (e:=72) (fun w=>by kernel_rfl) rfl (fun c19=>?_)
 refine TL.callV hF (of_fn) rfl rfl ?_
 refine TL.buildSlice hF rfl (cs:=(([f0T l1 c3 l2 c6 c8 c13,f1T l3 c17 c19]:List TE).flatMap teC).toArray) (e:=72) (fun w=>by kernel_rfl) rfl (fun c21=>?_)
 refine TL.assign hF rfl rfl ?_
 refine TL.nil ?_
 refine TQ.then_n ?_
 refine T.ret ?_
 refine TQ.hsub ([[(c21,Obj.cells (([f0T l1 c3 l2 c6 c8 c13,f1T l3 c17 c19]:List TE).flatMap teC).toArray 72 (0,0))],[(c19,Obj.cells (([.nd 0 10 none 0 [],.nd 6 0 (some ⟨c17,0,none⟩) 1 [lessT l3 1]]:List TE).flatMap teC).toArray 72 (0,0))],[(c17,Obj.cells (([lessT l3 1]:List TE).flatMap teC).toArray 72 (0,0))],lessS l3 1,[(c13,Obj.cells (([.nd 1 0 none 0 [],sumT l1 c3 l2 c6 c8,.nd 0 0 none 0 []]:List TE).flatMap teC).toArray 72 (0,0))],[(c8,Obj.cells (([.nd 2 0 (some ⟨c3,0,none⟩) 1 [lessT l1 1],.nd 6 0 (some ⟨c6,0,none⟩) 1 [lessT l2 1]]:List TE).flatMap teC).toArray 72 (0,0))],[(c6,Obj.cells (([lessT l2 1]:List TE).flatMap teC).toArray 72 (0,0))],lessS l2 1,[(c3,Obj.cells (([lessT l1 1]:List TE).flatMap teC).toArray 72 (0,0))],lessS l1 1]++η) (List.Sublist.cons_cons _ (List.Sublist.cons_cons _ (List.Sublist.cons_cons _ (List.Sublist.cons_cons _ (List.Sublist.cons_cons _ (List.sublist_cons_self _ _)))))) ?_
 refine TQ.rets [0] _ rfl rfl rfl ?_
 refine ⟨some ⟨c21,0,none⟩,2,[f0T l1 c3 l2 c6 c8 c13,f1T l3 c17 c19],[[(c21,Obj.cells (([f0T l1 c3 l2 c6 c8 c13,f1T l3 c17 c19]:List TE).flatMap teC).toArray 72 (0,0))],[(c19,Obj.cells (([.nd 0 10 none 0 [],.nd 6 0 (some ⟨c17,0,none⟩) 1 [lessT l3 1]]:List TE).flatMap teC).toArray 72 (0,0))],[(c17,Obj.cells (([lessT l3 1]:List TE).flatMap teC).toArray 72 (0,0))],lessS l3 1,[(c13,Obj.cells (([.nd 1 0 none 0 [],sumT l1 c3 l2 c6 c8,.nd 0 0 none 0 []]:List TE).flatMap teC).toArray 72 (0,0))],[(c8,Obj.cells (([.nd 2 0 (some ⟨c3,0,none⟩) 1 [lessT l1 1],.nd 6 0 (some ⟨c6,0,none⟩) 1 [lessT l2 1]]:List TE).flatMap teC).toArray 72 (0,0))],[(c6,Obj.cells (([lessT l2 1]:List TE).flatMap teC).toArray 72 (0,0))],lessS l2 1,[(c3,Obj.cells (([lessT l1 1]:List TE).flatMap teC).toArray 72 (0,0))],lessS l1 1],rfl,⟨row_own (e:=72) (by simp),fun x hx=>?_⟩,rfl,rfl⟩
 have q1:Tr S w0 [[(c21,Obj.cells (([f0T l1 c3 l2 c6 c8 c13,f1T l3 c17 c19]:List TE).flatMap teC).toArray 72 (0,0))],[(c19,Obj.cells (([.nd 0 10 none 0 [],.nd 6 0 (some ⟨c17,0,none⟩) 1 [lessT l3 1]]:List TE).flatMap teC).toArray 72 (0,0))],[(c17,Obj.cells (([lessT l3 1]:List TE).flatMap teC).toArray 72 (0,0))],lessS l3 1,[(c13,Obj.cells (([.nd 1 0 none 0 [],sumT l1 c3 l2 c6 c8,.nd 0 0 none 0 []]:List TE).flatMap teC).toArray 72 (0,0))],[(c8,Obj.cells (([.nd 2 0 (some ⟨c3,0,none⟩) 1 [lessT l1 1],.nd 6 0 (some ⟨c6,0,none⟩) 1 [lessT l2 1]]:List TE).flatMap teC).toArray 72 (0,0))],[(c6,Obj.cells (([lessT l2 1]:List TE).flatMap teC).toArray 72 (0,0))],lessS l2 1,[(c3,Obj.cells (([lessT l1 1]:List TE).flatMap teC).toArray 72 (0,0))],lessS l1 1] (lessT l1 1):=lessT_tr (by simp)
 have q2:Tr S w0 [[(c21,Obj.cells (([f0T l1 c3 l2 c6 c8 c13,f1T l3 c17 c19]:List TE).flatMap teC).toArray 72 (0,0))],[(c19,Obj.cells (([.nd 0 10 none 0 [],.nd 6 0 (some ⟨c17,0,none⟩) 1 [lessT l3 1]]:List TE).flatMap teC).toArray 72 (0,0))],[(c17,Obj.cells (([lessT l3 1]:List TE).flatMap teC).toArray 72 (0,0))],lessS l3 1,[(c13,Obj.cells (([.nd 1 0 none 0 [],sumT l1 c3 l2 c6 c8,.nd 0 0 none 0 []]:List TE).flatMap teC).toArray 72 (0,0))],[(c8,Obj.cells (([.nd 2 0 (some ⟨c3,0,none⟩) 1 [lessT l1 1],.nd 6 0 (some ⟨c6,0,none⟩) 1 [lessT l2 1]]:List TE).flatMap teC).toArray 72 (0,0))],[(c6,Obj.cells (([lessT l2 1]:List TE).flatMap teC).toArray 72 (0,0))],lessS l2 1,[(c3,Obj.cells (([lessT l1 1]:List TE).flatMap teC).toArray 72 (0,0))],lessS l1 1] (lessT l2 1):=lessT_tr (by simp)
 have q3:Tr S w0 [[(c21,Obj.cells (([f0T l1 c3 l2 c6 c8 c13,f1T l3 c17 c19]:List TE).flatMap teC).toArray 72 (0,0))],[(c19,Obj.cells (([.nd 0 10 none 0 [],.nd 6 0 (some ⟨c17,0,none⟩) 1 [lessT l3 1]]:List TE).flatMap teC).toArray 72 (0,0))],[(c17,Obj.cells (([lessT l3 1]:List TE).flatMap teC).toArray 72 (0,0))],lessS l3 1,[(c13,Obj.cells (([.nd 1 0 none 0 [],sumT l1 c3 l2 c6 c8,.nd 0 0 none 0 []]:List TE).flatMap teC).toArray 72 (0,0))],[(c8,Obj.cells (([.nd 2 0 (some ⟨c3,0,none⟩) 1 [lessT l1 1],.nd 6 0 (some ⟨c6,0,none⟩) 1 [lessT l2 1]]:List TE).flatMap teC).toArray 72 (0,0))],[(c6,Obj.cells (([lessT l2 1]:List TE).flatMap teC).toArray 72 (0,0))],lessS l2 1,[(c3,Obj.cells (([lessT l1 1]:List TE).flatMap teC).toArray 72 (0,0))],lessS l1 1] (lessT l3 1):=lessT_tr (by simp)
 have q4:Tr S w0 [[(c21,Obj.cells (([f0T l1 c3 l2 c6 c8 c13,f1T l3 c17 c19]:List TE).flatMap teC).toArray 72 (0,0))],[(c19,Obj.cells (([.nd 0 10 none 0 [],.nd 6 0 (some ⟨c17,0,none⟩) 1 [lessT l3 1]]:List TE).flatMap teC).toArray 72 (0,0))],[(c17,Obj.cells (([lessT l3 1]:List TE).flatMap teC).toArray 72 (0,0))],lessS l3 1,[(c13,Obj.cells (([.nd 1 0 none 0 [],sumT l1 c3 l2 c6 c8,.nd 0 0 none 0 []]:List TE).flatMap teC).toArray 72 (0,0))],[(c8,Obj.cells (([.nd 2 0 (some ⟨c3,0,none⟩) 1 [lessT l1 1],.nd 6 0 (some ⟨c6,0,none⟩) 1 [lessT l2 1]]:List TE).flatMap teC).toArray 72 (0,0))],[(c6,Obj.cells (([lessT l2 1]:List TE).flatMap teC).toArray 72 (0,0))],lessS l2 1,[(c3,Obj.cells (([lessT l1 1]:List TE).flatMap teC).toArray 72 (0,0))],lessS l1 1] (.nd 2 0 (some ⟨c3,0,none⟩) 1 [lessT l1 1]):=tr_own (by simp) (Nat.le_refl _) (by simp) fun y hy=>by rw [List.mem_singleton.1 hy]; exact q1
 have q5:Tr S w0 [[(c21,Obj.cells (([f0T l1 c3 l2 c6 c8 c13,f1T l3 c17 c19]:List TE).flatMap teC).toArray 72 (0,0))],[(c19,Obj.cells (([.nd 0 10 none 0 [],.nd 6 0 (some ⟨c17,0,none⟩) 1 [lessT l3 1]]:List TE).flatMap teC).toArray 72 (0,0))],[(c17,Obj.cells (([lessT l3 1]:List TE).flatMap teC).toArray 72 (0,0))],lessS l3 1,[(c13,Obj.cells (([.nd 1 0 none 0 [],sumT l1 c3 l2 c6 c8,.nd 0 0 none 0 []]:List TE).flatMap teC).toArray 72 (0,0))],[(c8,Obj.cells (([.nd 2 0 (some ⟨c3,0,none⟩) 1 [lessT l1 1],.nd 6 0 (some ⟨c6,0,none⟩) 1 [lessT l2 1]]:List TE).flatMap teC).toArray 72 (0,0))],[(c6,Obj.cells (([lessT l2 1]:List TE).flatMap teC).toArray 72 (0,0))],lessS l2 1,[(c3,Obj.cells (([lessT l1 1]:List TE).flatMap teC).toArray 72 (0,0))],lessS l1 1] (.nd 6 0 (some ⟨c6,0,none⟩) 1 [lessT l2 1]):=tr_own (by simp) (Nat.le_refl _) (by simp) fun y hy=>by rw [List.mem_singleton.1 hy]; exact q2
 have q6:Tr S w0 [[(c21,Obj.cells (([f0T l1 c3 l2 c6 c8 c13,f1T l3 c17 c19]:List TE).flatMap teC).toArray 72 (0,0))],[(c19,Obj.cells (([.nd 0 10 none 0 [],.nd 6 0 (some ⟨c17,0,none⟩) 1 [lessT l3 1]]:List TE).flatMap teC).toArray 72 (0,0))],[(c17,Obj.cells (([lessT l3 1]:List TE).flatMap teC).toArray 72 (0,0))],lessS l3 1,[(c13,Obj.cells (([.nd 1 0 none 0 [],sumT l1 c3 l2 c6 c8,.nd 0 0 none 0 []]:List TE).flatMap teC).toArray 72 (0,0))],[(c8,Obj.cells (([.nd 2 0 (some ⟨c3,0,none⟩) 1 [lessT l1 1],.nd 6 0 (some ⟨c6,0,none⟩) 1 [lessT l2 1]]:List TE).flatMap teC).toArray 72 (0,0))],[(c6,Obj.cells (([lessT l2 1]:List TE).flatMap teC).toArray 72 (0,0))],lessS l2 1,[(c3,Obj.cells (([lessT l1 1]:List TE).flatMap teC).toArray 72 (0,0))],lessS l1 1] (.nd 6 0 (some ⟨c17,0,none⟩) 1 [lessT l3 1]):=tr_own (by simp) (Nat.le_refl _) (by simp) fun y hy=>by rw [List.mem_singleton.1 hy]; exact q3
 have q7:Tr S w0 [[(c21,Obj.cells (([f0T l1 c3 l2 c6 c8 c13,f1T l3 c17 c19]:List TE).flatMap teC).toArray 72 (0,0))],[(c19,Obj.cells (([.nd 0 10 none 0 [],.nd 6 0 (some ⟨c17,0,none⟩) 1 [lessT l3 1]]:List TE).flatMap teC).toArray 72 (0,0))],[(c17,Obj.cells (([lessT l3 1]:List TE).flatMap teC).toArray 72 (0,0))],lessS l3 1,[(c13,Obj.cells (([.nd 1 0 none 0 [],sumT l1 c3 l2 c6 c8,.nd 0 0 none 0 []]:List TE).flatMap teC).toArray 72 (0,0))],[(c8,Obj.cells (([.nd 2 0 (some ⟨c3,0,none⟩) 1 [lessT l1 1],.nd 6 0 (some ⟨c6,0,none⟩) 1 [lessT l2 1]]:List TE).flatMap teC).toArray 72 (0,0))],[(c6,Obj.cells (([lessT l2 1]:List TE).flatMap teC).toArray 72 (0,0))],lessS l2 1,[(c3,Obj.cells (([lessT l1 1]:List TE).flatMap teC).toArray 72 (0,0))],lessS l1 1] (sumT l1 c3 l2 c6 c8):=tr_own (by simp) (Nat.le_refl _) (by simp) fun y hy=>by
  simp only [List.mem_cons,List.not_mem_nil,or_false] at hy
  rcases hy with rfl | rfl
  ·exact q4
  ·exact q5
 simp only [List.mem_cons,List.not_mem_nil,or_false] at hx
 rcases hx with rfl | rfl
 ·exact tr_own (by simp) (Nat.le_refl _) (by simp) fun y hy=>by
   simp only [List.mem_cons,List.not_mem_nil,or_false] at hy
   rcases hy with rfl | rfl | rfl
   ·exact tr_leaf 1 0
   ·exact q7
   ·exact tr_leaf 0 0
 ·exact tr_own (by simp) (Nat.le_refl _) (by simp) fun y hy=>by
   simp only [List.mem_cons,List.not_mem_nil,or_false] at hy
   rcases hy with rfl | rfl
   ·exact tr_leaf 0 10
   ·exact q6
end Go.Proofs.YtdiacobmhkmljaaDoor
/- What all laws end with. -/
namespace Go.Proofs.YtdiacobmhkmljaaDoor
open Go.Sl
variable {S:Nat→Prop} {w0:World} {η:Heap}
theorem nodesL_true {a b:Option Addr} {l m:List NH} {ca cb:Nat} (hl:NL S w0 η a l) (hm:NL S w0 η b m) (hll:l.length<2 ^ 63) (e:nds l=nds m):Rt Tryd.prog 26 [.slice a l.length ca,.slice b m.length cb].toArray S w0 η (fun v η'=>v = .bool true∧η'=η):=by
 have h:=nodesL_fn (ca:=ca) (cb:=cb) hl hm hll
 rw [decide_eq_true e] at h; exact h
theorem round_true {x y:RH} {r:Rnd} (hx:RM S w0 η x) (hy:RM S w0 η y) (e:x.r=r) (e2:y.r=r) (hl:r.again.length<2 ^ 63∧r.new.length<2 ^ 63∧r.kept.length<2 ^ 63∧r.dropped.length<2 ^ 63):Rt Tryd.prog 46 [.agg (rhC x).toArray,.agg (rhC y).toArray].toArray S w0 η (fun v η'=>v = .bool true∧η'=η):=by
 have h:=round_fn hx hy (by rw [e]; exact hl)
 rw [decide_eq_true (e.trans e2.symm)] at h; exact h
theorem Equal_true {a b:Option Addr} {xs ys:List Int} {ca cb:Nat} (hx:Row S w0 η a (ints xs)) (hy:Row S w0 η b (ints ys)) (hl:xs.length<2 ^ 63) (e:xs=ys):Rt Tryd.prog 45 [.slice a xs.length ca,.slice b ys.length cb].toArray S w0 η (fun v η'=>v = .bool true∧η'=η):=by
 have h:=Equal_fn (ca:=ca) (cb:=cb) hx hy hl
 rw [decide_eq_true e] at h; exact h
theorem run_lit {F:List Ex} {cells:List Int} {top:Key} {l:List NH} {L:List Nd} (h:nds l=(runE F cells top).1) (e:runE F cells top=(L,0)):nds l=L:=by rw [h,e]
theorem play_lit {F:List Ex} {cells:List Int} {top:Key} {rs:List (List (Int × Int))} {l:List RH} {L:List Rnd} (h:l.map (·.r)=(playS F cells top rs).1) (e:playS F cells top rs=(L,0)):l.map (·.r)=L:=by rw [h,e]
theorem rnd1 {l:List RH} {r:Rnd} (h:l.map (·.r)=[r]):∃ x,l=[x]∧x.r=r:=by
 match l,h with
 | [x],h=>exact ⟨x,rfl,by simpa using h⟩
theorem rnd2 {l:List RH} {r s:Rnd} (h:l.map (·.r)=[r,s]):∃ x y,l=[x,y]∧x.r=r∧y.r=s:=by
 match l,h with
 | [x,y],h=>exact ⟨x,y,rfl,by simpa using h⟩
theorem gl1 {b1 b2:Nat} {l:List Key} {n:Nat} (hn:n=l.length):GL kC S w0 [[(b2,Obj.cells #[.slice (some ⟨b1,0,none⟩) n n] 38 (0,0))],[(b1,Obj.cells (l.flatMap kC).toArray 60 (0,0))]] (some ⟨b2,0,none⟩) [(some ⟨b1,0,none⟩,l,n)]:=by
 subst hn
 exact ⟨row_own (cs:=[.slice (some ⟨b1,0,none⟩) l.length l.length]) (e:=38) (by simp),fun p hp=>by rw [List.mem_singleton.1 hp]; exact row_own (e:=60) (by simp)⟩
theorem lit1:runE funsF [3,4,5] (0,2)=([⟨(0,0),0,[]⟩,⟨(0,1),3,[cellD 0 3,gotD (0,0) 0]⟩,⟨(0,2),7,[cellD 1 4,gotD (0,1) 3]⟩],0):=by decide +kernel
theorem lit2:playS funsF [3,4,5] (0,3) [[(1,6)]]=([⟨14,[(0,2),(0,3)],[],[(0,0),(0,1)],[]⟩],0):=by decide +kernel
theorem lit3:playS funsF [3,4,5] (1,4) [[(0,4)],[(0,4)]]=([⟨1,[(0,1),(0,2),(0,3),(1,4)],[],[(0,0)],[]⟩,⟨1,[],[],[(0,0),(0,1),(0,2),(0,3),(1,4)],[]⟩],0):=by decide +kernel
theorem lit4:playS funsF [3,4,5] (1,4) [[(0,4),(1,3)]]=([⟨1,[(0,1),(0,2)],[],[(0,0),(0,3),(1,4)],[]⟩],0):=by decide +kernel
theorem litA:askedS funsF [3,4,5] (0,3)=0:=by decide +kernel
theorem litB:askedS funsF [3,6,5] (0,3)=0:=by decide +kernel
theorem litC:traceS funsF [3,4,5] (0,3)=[⟨(0,0),0,[]⟩,⟨(0,1),3,[cellD 0 3,gotD (0,0) 0]⟩,⟨(0,2),7,[cellD 1 4,gotD (0,1) 3]⟩,⟨(0,3),12,[cellD 2 5,gotD (0,2) 7]⟩]:=by decide +kernel
theorem litD:traceS funsF [3,6,5] (0,3)=[⟨(0,0),0,[]⟩,⟨(0,1),3,[cellD 0 3,gotD (0,0) 0]⟩,⟨(0,2),9,[cellD 1 6,gotD (0,1) 3]⟩,⟨(0,3),14,[cellD 2 5,gotD (0,2) 9]⟩]:=by decide +kernel
theorem lit5:distS funsF [3,4,5] [3,6,5] (0,3)=(2,0):=by
 rw [dist_yes litA litB rfl,litC,litD]
 decide +kernel
theorem lit6:needsS funsF [3,4,5] (0,2)=([0,1],0):=by decide +kernel
theorem lit7:checkS funsF=0:=by decide +kernel
set_option maxHeartbeats 8000000 in
theorem traced_law (hT : Tabs S w0) :
  Rt Tryd.prog 17 [].toArray S w0 η (fun v _=>v = .bool true):=by
 have hF:=open_wide
 refine Rt.of (fn:=Tryd.f17) Tryd.func17 rfl rfl ?_
 refine T.seq ?_
 refine T.region ?_
 refine TL.assign hF rfl rfl ?_
 refine TL.nil ?_
 refine TQ.then_n ?_
 refine T.seq ?_
 refine T.region ?_
 have hb:=Back.refl S w0
 refine TL.call hF functions_fn rfl rfl ?_
 rintro _ _ ⟨fa,fc,fl,segs,rfl,hfs,hfx,rfl⟩
 have hfl:fl.length<9223372036854775808:=by have:=congrArg List.length hfx; rw [List.length_map] at this; rw [this]; decide
 refine TL.freeze (segs) rfl (fun S1 w1 hz1=>?_)
 replace hb:=hb.frz hz1
 replace hT:=hT.old hz1
 replace hfs:=hfs.frz hz1
 refine TL.buildSlice hF rfl (cs:=#[.int .i64 3,.int .i64 4,.int .i64 5]) (e:=3) (fun w=>by kernel_rfl) rfl (fun b17=>?_)
 refine TL.assign hF rfl rfl ?_
 refine TL.assign hF rfl rfl ?_
 refine TL.nil ?_
 refine TQ.then_n ?_
 refine T.seq ?_
 refine T.region ?_
 refine TL.move hF rfl rfl ?_
 refine TL.move hF rfl rfl ?_
 have h17:Row S1 w1 [[(b17,Obj.cells #[.int .i64 3,.int .i64 4,.int .i64 5] 3 (0,0))]] (some ⟨b17,0,none⟩) (ints [3,4,5]):=row_own (cs:=[.int .i64 3,.int .i64 4,.int .i64 5]) (e:=3) (by simp)
 refine TL.freeze ([[(b17,Obj.cells #[.int .i64 3,.int .i64 4,.int .i64 5] 3 (0,0))]]) rfl (fun S2 w2 hz2=>?_)
 replace hb:=hb.frz hz2
 replace hT:=hT.old hz2
 replace hfs:=hfs.old hz2
 replace h17:=h17.frz hz2
 refine TL.callV hF (at_fn 0 2) rfl rfl ?_
 refine TL.call hF (Run_fn (cells:=[3,4,5]) (cc:=3) (top:=(0,2)) hT hfs hfl h17 (by decide)) rfl rfl ?_
 rintro _ _ ⟨a3,c3,l3,segs,rfl,hn3,hl3,hc3,rfl⟩
 have e3:runE (fl.map TE.ex) [3,4,5] (0,2)=([⟨(0,0),0,[]⟩,⟨(0,1),3,[cellD 0 3,gotD (0,0) 0]⟩,⟨(0,2),7,[cellD 1 4,gotD (0,1) 3]⟩],0):=by rw [hfx]; exact lit1
 replace hn3:=run_lit hn3 e3
 rw [e3]
 refine TL.freeze (segs) rfl (fun S3 w3 hz3=>?_)
 replace hb:=hb.frz hz3
 replace hT:=hT.old hz3
 replace hfs:=hfs.old hz3
 replace h17:=h17.old hz3
 replace hl3:=hl3.frz hz3
 refine TL.move hF rfl rfl ?_
 refine TL.extract hF rfl rfl rfl ?_
 refine TL.extract hF rfl rfl rfl ?_
 refine TL.assign hF rfl rfl ?_
 refine TL.assign hF rfl rfl ?_
 refine TL.nil ?_
 refine TQ.then_n ?_
 refine T.seq ?_
 refine T.region ?_
 refine TL.callV hF (at_fn 0 0) rfl rfl ?_
 refine TL.build hF rfl (r:=.agg (nhC ⟨⟨(0,0),0,[]⟩,none,0⟩).toArray) (fun w=>by kernel_rfl) rfl ?_
 refine TL.callV hF (at_fn 0 1) rfl rfl ?_
 refine TL.callV hF (cell_fn 0 3) rfl rfl ?_
 refine TL.callV hF (at_fn 0 0) rfl rfl ?_
 refine TL.callV hF (got_fn (0,0) 0) rfl rfl ?_
 refine TL.buildSlice hF rfl (cs:=(([cellD 0 3,gotD (0,0) 0]:List Dp).flatMap dpC).toArray) (e:=56) (fun w=>by kernel_rfl) rfl (fun b31=>?_)
 refine TL.build hF rfl (r:=.agg (nhC ⟨⟨(0,1),3,[cellD 0 3,gotD (0,0) 0]⟩,some ⟨b31,0,none⟩,2⟩).toArray) (fun w=>by kernel_rfl) rfl ?_
 refine TL.callV hF (at_fn 0 2) rfl rfl ?_
 refine TL.callV hF (cell_fn 1 4) rfl rfl ?_
 refine TL.callV hF (at_fn 0 1) rfl rfl ?_
 refine TL.callV hF (got_fn (0,1) 3) rfl rfl ?_
 refine TL.buildSlice hF rfl (cs:=(([cellD 1 4,gotD (0,1) 3]:List Dp).flatMap dpC).toArray) (e:=56) (fun w=>by kernel_rfl) rfl (fun b37=>?_)
 refine TL.build hF rfl (r:=.agg (nhC ⟨⟨(0,2),7,[cellD 1 4,gotD (0,1) 3]⟩,some ⟨b37,0,none⟩,2⟩).toArray) (fun w=>by kernel_rfl) rfl ?_
 refine TL.buildSlice hF rfl (cs:=(([⟨⟨(0,0),0,[]⟩,none,0⟩,⟨⟨(0,1),3,[cellD 0 3,gotD (0,0) 0]⟩,some ⟨b31,0,none⟩,2⟩,⟨⟨(0,2),7,[cellD 1 4,gotD (0,1) 3]⟩,some ⟨b37,0,none⟩,2⟩]:List NH).flatMap nhC).toArray) (e:=43) (fun w=>by kernel_rfl) rfl (fun b39=>?_)
 refine TL.assign hF rfl rfl ?_
 refine TL.nil ?_
 refine TQ.then_n ?_
 refine T.seq ?_
 refine T.region ?_
 refine TL.move hF rfl rfl ?_
 refine TL.move hF rfl rfl ?_
 have hw:NL S3 w3 [[(b39,Obj.cells (([⟨⟨(0,0),0,[]⟩,none,0⟩,⟨⟨(0,1),3,[cellD 0 3,gotD (0,0) 0]⟩,some ⟨b31,0,none⟩,2⟩,⟨⟨(0,2),7,[cellD 1 4,gotD (0,1) 3]⟩,some ⟨b37,0,none⟩,2⟩]:List NH).flatMap nhC).toArray 43 (0,0))],[(b37,Obj.cells (([cellD 1 4,gotD (0,1) 3]:List Dp).flatMap dpC).toArray 56 (0,0))],[(b31,Obj.cells (([cellD 0 3,gotD (0,0) 0]:List Dp).flatMap dpC).toArray 56 (0,0))]] (some ⟨b39,0,none⟩) ([⟨⟨(0,0),0,[]⟩,none,0⟩,⟨⟨(0,1),3,[cellD 0 3,gotD (0,0) 0]⟩,some ⟨b31,0,none⟩,2⟩,⟨⟨(0,2),7,[cellD 1 4,gotD (0,1) 3]⟩,some ⟨b37,0,none⟩,2⟩]:List NH):=⟨row_own (e:=43) (by simp),fun x hx=>by
  simp only [List.mem_cons,List.not_mem_nil,or_false] at hx
  rcases hx with rfl | rfl | rfl
  ·exact ⟨Row.none,Nat.le_refl _,(show 0<4294967296 by decide)⟩
  ·exact ⟨row_own (e:=56) (by simp),Nat.le_refl _,(show 2<4294967296 by decide)⟩
  ·exact ⟨row_own (e:=56) (by simp),Nat.le_refl _,(show 2<4294967296 by decide)⟩⟩
 refine TL.freeze ([[(b39,Obj.cells (([⟨⟨(0,0),0,[]⟩,none,0⟩,⟨⟨(0,1),3,[cellD 0 3,gotD (0,0) 0]⟩,some ⟨b31,0,none⟩,2⟩,⟨⟨(0,2),7,[cellD 1 4,gotD (0,1) 3]⟩,some ⟨b37,0,none⟩,2⟩]:List NH).flatMap nhC).toArray 43 (0,0))],[(b37,Obj.cells (([cellD 1 4,gotD (0,1) 3]:List Dp).flatMap dpC).toArray 56 (0,0))],[(b31,Obj.cells (([cellD 0 3,gotD (0,0) 0]:List Dp).flatMap dpC).toArray 56 (0,0))]]) rfl (fun S4 w4 hz4=>?_)
 replace hb:=hb.frz hz4
 replace hT:=hT.old hz4
 replace hfs:=hfs.old hz4
 replace h17:=h17.old hz4
 replace hl3:=hl3.old hz4
 replace hw:=hw.frz hz4
 refine TL.callV hF (at_fn 0 3) rfl rfl ?_
 refine TL.build hF rfl (r:=kV (1,6)) (fun w=>by kernel_rfl) rfl ?_
 refine TL.buildSlice hF rfl (cs:=(([(1,6)]:List Key).flatMap kC).toArray) (e:=60) (fun w=>by kernel_rfl) rfl (fun b45=>?_)
 refine TL.buildSlice hF rfl (cs:=#[.slice (some ⟨b45,0,none⟩) 1 1]) (e:=38) (fun w=>by kernel_rfl) rfl (fun b46=>?_)
 have hg6:GL kC S4 w4 [[(b46,Obj.cells #[.slice (some ⟨b45,0,none⟩) 1 1] 38 (0,0))],[(b45,Obj.cells (([(1,6)]:List Key).flatMap kC).toArray 60 (0,0))]] (some ⟨b46,0,none⟩) [(some ⟨b45,0,none⟩,[(1,6)],1)]:=gl1 rfl
 refine TL.freeze ([[(b46,Obj.cells #[.slice (some ⟨b45,0,none⟩) 1 1] 38 (0,0))],[(b45,Obj.cells (([(1,6)]:List Key).flatMap kC).toArray 60 (0,0))]]) rfl (fun S5 w5 hz5=>?_)
 replace hb:=hb.frz hz5
 replace hT:=hT.old hz5
 replace hfs:=hfs.old hz5
 replace h17:=h17.old hz5
 replace hl3:=hl3.old hz5
 replace hw:=hw.old hz5
 replace hg6:=hg6.frz hz5
 refine TL.call hF (Play_fn (cells:=[3,4,5]) (cc:=3) (top:=(0,3)) (ps:=[(some ⟨b45,0,none⟩,[(1,6)],1)]) hT hfs hfl h17 (by decide) hg6 (by simp) (by simp)) rfl rfl ?_
 rintro _ _ ⟨a6,c6,l6,segs,rfl,hn6,hl6,hc6,rfl⟩
 have e6:playS (fl.map TE.ex) [3,4,5] (0,3) (erounds [(some ⟨b45,0,none⟩,[(1,6)],1)])=([⟨14,[(0,2),(0,3)],[],[(0,0),(0,1)],[]⟩],0):=by rw [hfx]; exact lit2
 replace hn6:=play_lit hn6 e6
 rw [e6]
 obtain ⟨x6,rfl,hx6⟩:=rnd1 hn6
 refine TL.freeze (segs) rfl (fun S6 w6 hz6=>?_)
 replace hb:=hb.frz hz6
 replace hT:=hT.old hz6
 replace hfs:=hfs.old hz6
 replace h17:=h17.old hz6
 replace hl3:=hl3.old hz6
 replace hw:=hw.old hz6
 replace hg6:=hg6.old hz6
 replace hl6:=hl6.frz hz6
 refine TL.move hF rfl rfl ?_
 refine TL.extract hF rfl rfl rfl ?_
 refine TL.extract hF rfl rfl rfl ?_
 refine TL.assign hF rfl rfl ?_
 refine TL.assign hF rfl rfl ?_
 refine TL.nil ?_
 refine TQ.then_n ?_
 refine T.seq ?_
 refine T.region ?_
 refine TL.move hF rfl rfl ?_
 refine TL.move hF rfl rfl ?_
 refine TL.callV hF (at_fn 1 4) rfl rfl ?_
 refine TL.build hF rfl (r:=kV (0,4)) (fun w=>by kernel_rfl) rfl ?_
 refine TL.buildSlice hF rfl (cs:=(([(0,4)]:List Key).flatMap kC).toArray) (e:=60) (fun w=>by kernel_rfl) rfl (fun b55=>?_)
 refine TL.build hF rfl (r:=kV (0,4)) (fun w=>by kernel_rfl) rfl ?_
 refine TL.buildSlice hF rfl (cs:=(([(0,4)]:List Key).flatMap kC).toArray) (e:=60) (fun w=>by kernel_rfl) rfl (fun b57=>?_)
 refine TL.buildSlice hF rfl (cs:=#[.slice (some ⟨b55,0,none⟩) 1 1,.slice (some ⟨b57,0,none⟩) 1 1]) (e:=38) (fun w=>by kernel_rfl) rfl (fun b58=>?_)
 have hg8:GL kC S6 w6 [[(b58,Obj.cells #[.slice (some ⟨b55,0,none⟩) 1 1,.slice (some ⟨b57,0,none⟩) 1 1] 38 (0,0))],[(b57,Obj.cells (([(0,4)]:List Key).flatMap kC).toArray 60 (0,0))],[(b55,Obj.cells (([(0,4)]:List Key).flatMap kC).toArray 60 (0,0))]] (some ⟨b58,0,none⟩) [(some ⟨b55,0,none⟩,[(0,4)],1),(some ⟨b57,0,none⟩,[(0,4)],1)]:=⟨row_own (cs:=[.slice (some ⟨b55,0,none⟩) 1 1,.slice (some ⟨b57,0,none⟩) 1 1]) (e:=38) (by simp),fun p hp=>by
  simp only [List.mem_cons,List.not_mem_nil,or_false] at hp
  rcases hp with rfl | rfl
  ·exact row_own (e:=60) (by simp)
  ·exact row_own (e:=60) (by simp)⟩
 refine TL.freeze ([[(b58,Obj.cells #[.slice (some ⟨b55,0,none⟩) 1 1,.slice (some ⟨b57,0,none⟩) 1 1] 38 (0,0))],[(b57,Obj.cells (([(0,4)]:List Key).flatMap kC).toArray 60 (0,0))],[(b55,Obj.cells (([(0,4)]:List Key).flatMap kC).toArray 60 (0,0))]]) rfl (fun S7 w7 hz7=>?_)
 replace hb:=hb.frz hz7
 replace hT:=hT.old hz7
 replace hfs:=hfs.old hz7
 replace h17:=h17.old hz7
 replace hl3:=hl3.old hz7
 replace hw:=hw.old hz7
 replace hl6:=hl6.old hz7
 replace hg8:=hg8.frz hz7
 refine TL.call hF (Play_fn (cells:=[3,4,5]) (cc:=3) (top:=(1,4)) (ps:=[(some ⟨b55,0,none⟩,[(0,4)],1),(some ⟨b57,0,none⟩,[(0,4)],1)]) hT hfs hfl h17 (by decide) hg8 (by simp) (by simp)) rfl rfl ?_
 rintro _ _ ⟨a8,c8,l8,segs,rfl,hn8,hl8,hc8,rfl⟩
 have e8:playS (fl.map TE.ex) [3,4,5] (1,4) (erounds [(some ⟨b55,0,none⟩,[(0,4)],1),(some ⟨b57,0,none⟩,[(0,4)],1)])=([⟨1,[(0,1),(0,2),(0,3),(1,4)],[],[(0,0)],[]⟩,⟨1,[],[],[(0,0),(0,1),(0,2),(0,3),(1,4)],[]⟩],0):=by rw [hfx]; exact lit3
 replace hn8:=play_lit hn8 e8
 rw [e8]
 obtain ⟨x8,y8,rfl,hx8,hy8⟩:=rnd2 hn8
 refine TL.freeze (segs) rfl (fun S8 w8 hz8=>?_)
 replace hb:=hb.frz hz8
 replace hT:=hT.old hz8
 replace hfs:=hfs.old hz8
 replace h17:=h17.old hz8
 replace hl3:=hl3.old hz8
 replace hw:=hw.old hz8
 replace hl6:=hl6.old hz8
 replace hg8:=hg8.old hz8
 replace hl8:=hl8.frz hz8
 refine TL.move hF rfl rfl ?_
 refine TL.extract hF rfl rfl rfl ?_
 refine TL.extract hF rfl rfl rfl ?_
 refine TL.assign hF rfl rfl ?_
 refine TL.assign hF rfl rfl ?_
 refine TL.nil ?_
 refine TQ.then_n ?_
 refine T.seq ?_
 refine T.region ?_
 refine TL.move hF rfl rfl ?_
 refine TL.move hF rfl rfl ?_
 refine TL.callV hF (at_fn 1 4) rfl rfl ?_
 refine TL.build hF rfl (r:=kV (0,4)) (fun w=>by kernel_rfl) rfl ?_
 refine TL.build hF rfl (r:=kV (1,3)) (fun w=>by kernel_rfl) rfl ?_
 refine TL.buildSlice hF rfl (cs:=(([(0,4),(1,3)]:List Key).flatMap kC).toArray) (e:=60) (fun w=>by kernel_rfl) rfl (fun b68=>?_)
 refine TL.buildSlice hF rfl (cs:=#[.slice (some ⟨b68,0,none⟩) 2 2]) (e:=38) (fun w=>by kernel_rfl) rfl (fun b69=>?_)
 have hg10:GL kC S8 w8 [[(b69,Obj.cells #[.slice (some ⟨b68,0,none⟩) 2 2] 38 (0,0))],[(b68,Obj.cells (([(0,4),(1,3)]:List Key).flatMap kC).toArray 60 (0,0))]] (some ⟨b69,0,none⟩) [(some ⟨b68,0,none⟩,[(0,4),(1,3)],2)]:=gl1 rfl
 refine TL.freeze ([[(b69,Obj.cells #[.slice (some ⟨b68,0,none⟩) 2 2] 38 (0,0))],[(b68,Obj.cells (([(0,4),(1,3)]:List Key).flatMap kC).toArray 60 (0,0))]]) rfl (fun S9 w9 hz9=>?_)
 replace hb:=hb.frz hz9
 replace hT:=hT.old hz9
 replace hfs:=hfs.old hz9
 replace h17:=h17.old hz9
 replace hl3:=hl3.old hz9
 replace hw:=hw.old hz9
 replace hl6:=hl6.old hz9
 replace hl8:=hl8.old hz9
 replace hg10:=hg10.frz hz9
 refine TL.call hF (Play_fn (cells:=[3,4,5]) (cc:=3) (top:=(1,4)) (ps:=[(some ⟨b68,0,none⟩,[(0,4),(1,3)],2)]) hT hfs hfl h17 (by decide) hg10 (by simp) (by simp)) rfl rfl ?_
 rintro _ _ ⟨a10,c10,l10,segs,rfl,hn10,hl10,hc10,rfl⟩
 have e10:playS (fl.map TE.ex) [3,4,5] (1,4) (erounds [(some ⟨b68,0,none⟩,[(0,4),(1,3)],2)])=([⟨1,[(0,1),(0,2)],[],[(0,0),(0,3),(1,4)],[]⟩],0):=by rw [hfx]; exact lit4
 replace hn10:=play_lit hn10 e10
 rw [e10]
 obtain ⟨x10,rfl,hx10⟩:=rnd1 hn10
 refine TL.freeze (segs) rfl (fun S10 w10 hz10=>?_)
 replace hb:=hb.frz hz10
 replace hT:=hT.old hz10
 replace hfs:=hfs.old hz10
 replace h17:=h17.old hz10
 replace hl3:=hl3.old hz10
 replace hw:=hw.old hz10
 replace hl6:=hl6.old hz10
 replace hl8:=hl8.old hz10
 replace hg10:=hg10.old hz10
 replace hl10:=hl10.frz hz10
 refine TL.move hF rfl rfl ?_
 refine TL.extract hF rfl rfl rfl ?_
 refine TL.extract hF rfl rfl rfl ?_
 refine TL.assign hF rfl rfl ?_
 refine TL.assign hF rfl rfl ?_
 refine TL.nil ?_
 refine TQ.then_n ?_
 refine T.seq ?_
 refine T.region ?_
 refine TL.move hF rfl rfl ?_
 refine TL.move hF rfl rfl ?_
 refine TL.buildSlice hF rfl (cs:=#[.int .i64 3,.int .i64 6,.int .i64 5]) (e:=3) (fun w=>by kernel_rfl) rfl (fun b76=>?_)
 refine TL.callV hF (at_fn 0 3) rfl rfl ?_
 have h76:Row S10 w10 [[(b76,Obj.cells #[.int .i64 3,.int .i64 6,.int .i64 5] 3 (0,0))]] (some ⟨b76,0,none⟩) (ints [3,6,5]):=row_own (cs:=[.int .i64 3,.int .i64 6,.int .i64 5]) (e:=3) (by simp)
 refine TL.freeze ([[(b76,Obj.cells #[.int .i64 3,.int .i64 6,.int .i64 5] 3 (0,0))]]) rfl (fun S11 w11 hz11=>?_)
 replace hb:=hb.frz hz11
 replace hT:=hT.old hz11
 replace hfs:=hfs.old hz11
 replace h17:=h17.old hz11
 replace hl3:=hl3.old hz11
 replace hw:=hw.old hz11
 replace hl6:=hl6.old hz11
 replace hl8:=hl8.old hz11
 replace hl10:=hl10.old hz11
 replace h76:=h76.frz hz11
 have e12:distS (fl.map TE.ex) [3,4,5] [3,6,5] (0,3)=(2,0):=by rw [hfx]; exact lit5
 refine TL.call hF (Distance_fn (cells:=[3,4,5]) (cc:=3) (others:=[3,6,5]) (dc:=3) (top:=(0,3)) hT hfs hfl h17 (by decide) h76 (by decide)) rfl rfl ?_
 rintro _ _ ⟨rfl,rfl⟩
 rw [e12]
 refine TL.move hF rfl rfl ?_
 refine TL.extract hF rfl rfl rfl ?_
 refine TL.extract hF rfl rfl rfl ?_
 refine TL.assign hF rfl rfl ?_
 refine TL.assign hF rfl rfl ?_
 refine TL.nil ?_
 refine TQ.then_n ?_
 refine T.seq ?_
 refine T.region ?_
 refine TL.move hF rfl rfl ?_
 refine TL.move hF rfl rfl ?_
 refine TL.callV hF (at_fn 0 2) rfl rfl ?_
 have e14:needsS (fl.map TE.ex) [3,4,5] (0,2)=([0,1],0):=by rw [hfx]; exact lit6
 refine TL.call hF (Needs_fn (cells:=[3,4,5]) (cc:=3) (top:=(0,2)) hT hfs hfl h17 (by decide)) rfl rfl ?_
 rintro _ _ ⟨a14,c14,segs,rfl,h14,rfl⟩
 rw [e14] at h14 ⊢
 refine TL.freeze (segs) rfl (fun S12 w12 hz12=>?_)
 replace hb:=hb.frz hz12
 replace hT:=hT.old hz12
 replace hfs:=hfs.old hz12
 replace h17:=h17.old hz12
 replace hl3:=hl3.old hz12
 replace hw:=hw.old hz12
 replace hl6:=hl6.old hz12
 replace hl8:=hl8.old hz12
 replace hl10:=hl10.old hz12
 replace h76:=h76.old hz12
 replace h14:=h14.frz hz12
 refine TL.move hF rfl rfl ?_
 refine TL.extract hF rfl rfl rfl ?_
 refine TL.extract hF rfl rfl rfl ?_
 refine TL.assign hF rfl rfl ?_
 refine TL.assign hF rfl rfl ?_
 refine TL.nil ?_
 refine TQ.then_n ?_
 refine T.seq ?_
 refine T.seq ?_
 refine T.region ?_
 refine TL.move hF rfl rfl ?_
 refine TL.bin hF rfl rfl rfl rfl ?_
 refine TL.move hF rfl rfl ?_
 refine TL.on rfl rfl rfl rfl ?_
 refine TL.move hF rfl rfl ?_
 refine TL.on rfl rfl rfl rfl ?_
 refine TL.bin hF rfl rfl rfl rfl ?_
 refine TL.pickF hF rfl rfl rfl rfl ?_
 refine TL.move hF rfl rfl ?_
 refine TL.on rfl rfl rfl rfl ?_
 refine TL.move hF rfl rfl ?_
 refine TL.on rfl rfl rfl rfl ?_
 refine TL.bin hF rfl rfl rfl rfl ?_
 refine TL.pickF hF rfl rfl rfl rfl ?_
 refine TL.move hF rfl rfl ?_
 refine TL.on rfl rfl rfl rfl ?_
 refine TL.move hF rfl rfl ?_
 refine TL.on rfl rfl rfl rfl ?_
 refine TL.bin hF rfl rfl rfl rfl ?_
 refine TL.pickF hF rfl rfl rfl rfl ?_
 refine TL.move hF rfl rfl ?_
 refine TL.on rfl rfl rfl rfl ?_
 refine TL.move hF rfl rfl ?_
 refine TL.on rfl rfl rfl rfl ?_
 refine TL.bin hF rfl rfl rfl rfl ?_
 refine TL.pickF hF rfl rfl rfl rfl ?_
 refine TL.move hF rfl rfl ?_
 refine TL.on rfl rfl rfl rfl ?_
 refine TL.move hF rfl rfl ?_
 refine TL.on rfl rfl rfl rfl ?_
 refine TL.bin hF rfl rfl rfl rfl ?_
 refine TL.pickF hF rfl rfl rfl rfl ?_
 refine TL.move hF rfl rfl ?_
 refine TL.on rfl rfl rfl rfl ?_
 refine TL.move hF rfl rfl ?_
 refine TL.on rfl rfl rfl rfl ?_
 refine TL.move hF rfl rfl ?_
 refine TL.on rfl rfl rfl rfl ?_
 refine TL.callV hF (nodesL_true hl3.ro hw.ro (by have:=congrArg List.length hn3; rw [nds_len] at this; rw [this]; decide) (hn3.trans rfl)) rfl rfl ?_
 refine TL.on rfl rfl rfl rfl ?_
 refine TL.not hF rfl rfl ?_
 refine TL.pickF hF rfl rfl rfl rfl ?_
 refine TL.move hF rfl rfl ?_
 refine TL.on rfl rfl rfl rfl ?_
 refine TL.move hF rfl rfl ?_
 refine TL.on rfl rfl rfl rfl ?_
 refine TL.len hF rfl rfl ?_
 refine TL.on rfl rfl rfl rfl ?_
 refine TL.bin hF rfl rfl rfl rfl ?_
 refine TL.pickF hF rfl rfl rfl rfl ?_
 refine TL.move hF rfl rfl ?_
 refine TL.on rfl rfl rfl rfl ?_
 refine TL.move hF rfl rfl ?_
 refine TL.on rfl rfl rfl rfl ?_
 refine TL.len hF rfl rfl ?_
 refine TL.on rfl rfl rfl rfl ?_
 refine TL.bin hF rfl rfl rfl rfl ?_
 refine TL.pickF hF rfl rfl rfl rfl ?_
 refine TL.move hF rfl rfl ?_
 refine TL.on rfl rfl rfl rfl ?_
 refine TL.move hF rfl rfl ?_
 refine TL.on rfl rfl rfl rfl ?_
 refine TL.len hF rfl rfl ?_
 refine TL.on rfl rfl rfl rfl ?_
 refine TL.bin hF rfl rfl rfl rfl ?_
 refine TL.pickF hF rfl rfl rfl rfl ?_
 refine TL.move hF rfl rfl ?_
 refine TL.on rfl rfl rfl rfl ?_
 refine TL.move hF rfl rfl ?_
 refine TL.on rfl rfl rfl rfl ?_
 refine TL.bin hF rfl rfl rfl rfl ?_
 refine TL.pickF hF rfl rfl rfl rfl ?_
 refine TL.move hF rfl rfl ?_
 refine TL.on rfl rfl rfl rfl ?_
 refine TL.move hF rfl rfl ?_
 refine TL.on rfl rfl rfl rfl ?_
 refine TL.buildSlice hF rfl (cs:=#[.int .i64 0,.int .i64 1]) (e:=3) (fun w=>by kernel_rfl) rfl (fun b137=>?_)
 refine TL.on rfl rfl rfl rfl ?_
 refine TL.callV hF (Equal_true (xs:=[0,1]) (ys:=[0,1]) h14.ro (row_own (cs:=[.int .i64 0,.int .i64 1]) (e:=3) (by simp)) (by decide) rfl) rfl rfl ?_
 refine TL.on rfl rfl rfl rfl ?_
 refine TL.not hF rfl rfl ?_
 refine TL.pickF hF rfl rfl rfl rfl ?_
 refine TL.move hF rfl rfl ?_
 refine TL.on rfl rfl rfl rfl ?_
 refine TL.move hF rfl rfl ?_
 refine TL.on rfl rfl rfl rfl ?_
 have eck:checkS (fl.map TE.ex)=0:=by rw [hfx]; exact lit7
 refine TL.call hF (Check_fn (c:=fc) hT hfs hfl) rfl rfl ?_
 rintro _ _ ⟨rfl,rfl⟩
 rw [eck]
 refine TL.on rfl rfl rfl rfl ?_
 refine TL.bin hF rfl rfl rfl rfl ?_
 refine TL.pickF hF rfl rfl rfl rfl ?_
 refine TL.nil ?_
 refine TQ.then_n ?_
 refine T.cond_f rfl rfl ?_
 refine T.skip ?_
 refine TQ.then_n ?_
 refine T.seq ?_
 refine T.drawH 64 mixed ?_
 refine DH.pure (i:=0) [(6,_,none)] rfl rfl rfl rfl ⟨⟨rfl,by kernel_rfl⟩,trivial⟩ (fun _ ext=>TL.move hF rfl rfl TL.fin) ?_
 refine DH.pure (i:=1) [(146,_,some 0)] rfl rfl rfl rfl ⟨⟨rfl,rfl,rfl⟩,trivial⟩ (fun _ ext=>TL.indexAddr hF rfl rfl (hl6.ad (i:=0) (show 0<1 by decide)) (by decide) (show (0:Int)<((1:Nat):Int) by decide) rfl TL.fin) ?_
 refine DH.read (i:=2) [(147,_,some 1)] rfl rfl rfl rfl ⟨⟨rfl,rfl,rfl⟩,trivial⟩ (fun ext=>TL.loadA hF (rhC x6) rfl rfl (hl6.ro.atA (i:=0) (show 0<1 by decide)) rfl TL.fin) ?_
 refine DH.pure (i:=3) [] rfl rfl rfl rfl trivial (fun _ ext=>TL.callV hF (at_fn 0 2) rfl rfl TL.fin) ?_
 refine DH.pure (i:=4) [] rfl rfl rfl rfl trivial (fun _ ext=>TL.callV hF (at_fn 0 3) rfl rfl TL.fin) ?_
 refine DH.pure (i:=6) [] rfl rfl rfl rfl trivial (fun _ ext=>TL.callV hF (at_fn 0 0) rfl rfl TL.fin) ?_
 refine DH.pure (i:=7) [] rfl rfl rfl rfl trivial (fun _ ext=>TL.callV hF (at_fn 0 1) rfl rfl TL.fin) ?_
 refine DH.k2 (by kernel_rfl) (by kernel_rfl) (by kernel_rfl) (by kernel_rfl) (HBK.mk (h:=5) [2] [(149,_,some 3),(150,_,some 4)] rfl rfl rfl ⟨⟨rfl,rfl,rfl⟩,⟨rfl,rfl,rfl⟩,trivial⟩ (by kernel_rfl) (fun ext=>?_)) (HBK.mk (h:=8) [2] [(152,_,some 6),(153,_,some 7)] rfl rfl rfl ⟨⟨rfl,rfl,rfl⟩,⟨rfl,rfl,rfl⟩,trivial⟩ (by kernel_rfl) (fun ext=>?_))
 ·refine TL.buildSlice hF rfl (cs:=(([(0,2),(0,3)]:List Key).flatMap kC).toArray) (e:=25) (fun w=>by kernel_rfl) rfl (fun b151=>?_)
  refine TL.finK ⟨⟨_,rfl,_,_,[(147,_,some 1)],rfl,rfl,⟨⟨rfl,rfl,rfl⟩,trivial⟩,fun ext=>TL.loadA hF (rhC x6) rfl rfl (hl6.ro.atA (i:=0) (show 0<1 by decide)) rfl TL.fin⟩,trivial⟩ ?_
  refine DH.k1 (by kernel_rfl) (by kernel_rfl) (by kernel_rfl) (by kernel_rfl) (HBK.mk (h:=8) [2] [(152,_,some 6),(153,_,some 7)] rfl rfl rfl ⟨⟨rfl,rfl,rfl⟩,⟨rfl,rfl,rfl⟩,trivial⟩ (by kernel_rfl) (fun ext=>?_))
  refine TL.buildSlice hF rfl (cs:=(([(0,0),(0,1)]:List Key).flatMap kC).toArray) (e:=25) (fun w=>by kernel_rfl) rfl (fun b154=>?_)
  refine TL.finK ⟨⟨_,rfl,_,_,[(147,_,some 1)],rfl,rfl,⟨⟨rfl,rfl,rfl⟩,trivial⟩,fun ext=>TL.loadA hF (rhC x6) rfl rfl (hl6.ro.atA (i:=0) (show 0<1 by decide)) rfl TL.fin⟩,trivial⟩ ?_
  refine DH.pure (i:=9) [(151,_,some 5),(154,_,some 8)] rfl rfl rfl rfl ⟨⟨rfl,rfl,rfl⟩,⟨rfl,rfl,rfl⟩,trivial⟩ (fun _ ext=>TL.build hF rfl (r:=.agg (rhC ⟨⟨14,[(0,2),(0,3)],[],[(0,0),(0,1)],[]⟩,some ⟨b151,0,none⟩,2,none,0,some ⟨b154,0,none⟩,2,none,0⟩).toArray) (fun w=>by kernel_rfl) rfl TL.fin) ?_
  refine DH.read (i:=10) [(148,_,some 2),(155,_,some 9)] rfl rfl rfl rfl ⟨⟨rfl,rfl,rfl⟩,⟨rfl,rfl,rfl⟩,trivial⟩ (fun ext=>TL.callV hF (round_true (r:=⟨14,[(0,2),(0,3)],[],[(0,0),(0,1)],[]⟩) ((hl6.item _ (by simp)).up (by simp)) (y:=⟨⟨14,[(0,2),(0,3)],[],[(0,0),(0,1)],[]⟩,some ⟨b151,0,none⟩,2,none,0,some ⟨b154,0,none⟩,2,none,0⟩) ⟨(row_own (b:=b151) (cs:=([(0,2),(0,3)]:List Key).flatMap kC) (e:=25) (by simp)),Row.none,(row_own (b:=b154) (cs:=([(0,0),(0,1)]:List Key).flatMap kC) (e:=25) (by simp)),Row.none⟩ hx6 rfl (by decide)) rfl rfl TL.fin) ?_
  refine DH.pure (i:=11) [(156,_,some 10)] rfl rfl rfl rfl ⟨⟨rfl,rfl,rfl⟩,trivial⟩ (fun _ ext=>TL.move hF rfl rfl TL.fin) ?_
  refine DH.pure (i:=12) [(8,_,none),(157,_,some 11)] rfl rfl rfl rfl ⟨⟨rfl,by kernel_rfl⟩,⟨rfl,rfl,rfl⟩,trivial⟩ (fun _ ext=>TL.on rfl rfl rfl rfl <| TL.move hF rfl rfl TL.fin) ?_
  refine DH.pure (i:=13) [(158,_,some 12),(157,_,some 11)] rfl rfl rfl rfl ⟨⟨rfl,rfl,rfl⟩,⟨rfl,rfl,rfl⟩,trivial⟩ (fun _ ext=>TL.on rfl rfl rfl rfl <| TL.indexAddr hF rfl rfl (hl8.ad (i:=0) (show 0<2 by decide)) (by decide) (show (0:Int)<((2:Nat):Int) by decide) rfl TL.fin) ?_
  refine DH.read (i:=14) [(159,_,some 13),(157,_,some 11)] rfl rfl rfl rfl ⟨⟨rfl,rfl,rfl⟩,⟨rfl,rfl,rfl⟩,trivial⟩ (fun ext=>TL.on rfl rfl rfl rfl <| TL.loadA hF (rhC x8) rfl rfl (hl8.ro.atA (i:=0) (show 0<2 by decide)) rfl TL.fin) ?_
  refine DH.pure (i:=15) [(157,_,some 11)] rfl rfl rfl rfl ⟨⟨rfl,rfl,rfl⟩,trivial⟩ (fun _ ext=>TL.on rfl rfl rfl rfl <| TL.callV hF (at_fn 0 1) rfl rfl TL.fin) ?_
  refine DH.pure (i:=16) [(157,_,some 11)] rfl rfl rfl rfl ⟨⟨rfl,rfl,rfl⟩,trivial⟩ (fun _ ext=>TL.on rfl rfl rfl rfl <| TL.callV hF (at_fn 0 2) rfl rfl TL.fin) ?_
  refine DH.pure (i:=17) [(157,_,some 11)] rfl rfl rfl rfl ⟨⟨rfl,rfl,rfl⟩,trivial⟩ (fun _ ext=>TL.on rfl rfl rfl rfl <| TL.callV hF (at_fn 0 3) rfl rfl TL.fin) ?_
  refine DH.pure (i:=18) [(157,_,some 11)] rfl rfl rfl rfl ⟨⟨rfl,rfl,rfl⟩,trivial⟩ (fun _ ext=>TL.on rfl rfl rfl rfl <| TL.callV hF (at_fn 1 4) rfl rfl TL.fin) ?_
  refine DH.pure (i:=20) [(157,_,some 11)] rfl rfl rfl rfl ⟨⟨rfl,rfl,rfl⟩,trivial⟩ (fun _ ext=>TL.on rfl rfl rfl rfl <| TL.callV hF (at_fn 0 0) rfl rfl TL.fin) ?_
  refine DH.k2 (by kernel_rfl) (by kernel_rfl) (by kernel_rfl) (by kernel_rfl) (HBK.mk (h:=19) [14] [(161,_,some 15),(162,_,some 16),(163,_,some 17),(164,_,some 18),(157,_,some 11)] rfl rfl rfl ⟨⟨rfl,rfl,rfl⟩,⟨rfl,rfl,rfl⟩,⟨rfl,rfl,rfl⟩,⟨rfl,rfl,rfl⟩,⟨rfl,rfl,rfl⟩,trivial⟩ (by kernel_rfl) (fun ext=>?_)) (HBK.mk (h:=21) [14] [(166,_,some 20),(157,_,some 11)] rfl rfl rfl ⟨⟨rfl,rfl,rfl⟩,⟨rfl,rfl,rfl⟩,trivial⟩ (by kernel_rfl) (fun ext=>?_))
  ·refine TL.on rfl rfl rfl rfl ?_
   refine TL.buildSlice hF rfl (cs:=(([(0,1),(0,2),(0,3),(1,4)]:List Key).flatMap kC).toArray) (e:=25) (fun w=>by kernel_rfl) rfl (fun b165=>?_)
   refine TL.finK ⟨⟨_,rfl,_,_,[(159,_,some 13),(157,_,some 11)],rfl,rfl,⟨⟨rfl,rfl,rfl⟩,⟨rfl,rfl,rfl⟩,trivial⟩,fun ext=>TL.on rfl rfl rfl rfl <| TL.loadA hF (rhC x8) rfl rfl (hl8.ro.atA (i:=0) (show 0<2 by decide)) rfl TL.fin⟩,trivial⟩ ?_
   refine DH.k1 (by kernel_rfl) (by kernel_rfl) (by kernel_rfl) (by kernel_rfl) (HBK.mk (h:=21) [14] [(166,_,some 20),(157,_,some 11)] rfl rfl rfl ⟨⟨rfl,rfl,rfl⟩,⟨rfl,rfl,rfl⟩,trivial⟩ (by kernel_rfl) (fun ext=>?_))
   refine TL.on rfl rfl rfl rfl ?_
   refine TL.buildSlice hF rfl (cs:=(([(0,0)]:List Key).flatMap kC).toArray) (e:=25) (fun w=>by kernel_rfl) rfl (fun b167=>?_)
   refine TL.finK ⟨⟨_,rfl,_,_,[(159,_,some 13),(157,_,some 11)],rfl,rfl,⟨⟨rfl,rfl,rfl⟩,⟨rfl,rfl,rfl⟩,trivial⟩,fun ext=>TL.on rfl rfl rfl rfl <| TL.loadA hF (rhC x8) rfl rfl (hl8.ro.atA (i:=0) (show 0<2 by decide)) rfl TL.fin⟩,trivial⟩ ?_
   refine DH.pure (i:=22) [(165,_,some 19),(167,_,some 21),(157,_,some 11)] rfl rfl rfl rfl ⟨⟨rfl,rfl,rfl⟩,⟨rfl,rfl,rfl⟩,⟨rfl,rfl,rfl⟩,trivial⟩ (fun _ ext=>TL.on rfl rfl rfl rfl <| TL.build hF rfl (r:=.agg (rhC ⟨⟨1,[(0,1),(0,2),(0,3),(1,4)],[],[(0,0)],[]⟩,some ⟨b165,0,none⟩,4,none,0,some ⟨b167,0,none⟩,1,none,0⟩).toArray) (fun w=>by kernel_rfl) rfl TL.fin) ?_
   refine DH.read (i:=23) [(160,_,some 14),(168,_,some 22),(157,_,some 11)] rfl rfl rfl rfl ⟨⟨rfl,rfl,rfl⟩,⟨rfl,rfl,rfl⟩,⟨rfl,rfl,rfl⟩,trivial⟩ (fun ext=>TL.on rfl rfl rfl rfl <| TL.callV hF (round_true (r:=⟨1,[(0,1),(0,2),(0,3),(1,4)],[],[(0,0)],[]⟩) ((hl8.item _ (by simp)).up (by simp)) (y:=⟨⟨1,[(0,1),(0,2),(0,3),(1,4)],[],[(0,0)],[]⟩,some ⟨b165,0,none⟩,4,none,0,some ⟨b167,0,none⟩,1,none,0⟩) ⟨(row_own (b:=b165) (cs:=([(0,1),(0,2),(0,3),(1,4)]:List Key).flatMap kC) (e:=25) (by simp)),Row.none,(row_own (b:=b167) (cs:=([(0,0)]:List Key).flatMap kC) (e:=25) (by simp)),Row.none⟩ hx8 rfl (by decide)) rfl rfl TL.fin) ?_
   refine DH.pure (i:=24) [(157,_,some 11),(169,_,some 23)] rfl rfl rfl rfl ⟨⟨rfl,rfl,rfl⟩,⟨rfl,rfl,rfl⟩,trivial⟩ (fun _ ext=>TL.pickT hF rfl rfl rfl rfl TL.fin) ?_
   refine DH.pure (i:=25) [(170,_,some 24)] rfl rfl rfl rfl ⟨⟨rfl,rfl,rfl⟩,trivial⟩ (fun _ ext=>TL.move hF rfl rfl TL.fin) ?_
   refine DH.pure (i:=26) [(8,_,none),(171,_,some 25)] rfl rfl rfl rfl ⟨⟨rfl,by kernel_rfl⟩,⟨rfl,rfl,rfl⟩,trivial⟩ (fun _ ext=>TL.on rfl rfl rfl rfl <| TL.move hF rfl rfl TL.fin) ?_
   refine DH.pure (i:=27) [(172,_,some 26),(171,_,some 25)] rfl rfl rfl rfl ⟨⟨rfl,rfl,rfl⟩,⟨rfl,rfl,rfl⟩,trivial⟩ (fun _ ext=>TL.on rfl rfl rfl rfl <| TL.indexAddr hF rfl rfl (hl8.ad (i:=1) (show 1<2 by decide)) (by decide) (show (1:Int)<((2:Nat):Int) by decide) rfl TL.fin) ?_
   refine DH.pure (i:=28) [(173,_,some 27),(171,_,some 25)] rfl rfl rfl rfl ⟨⟨rfl,rfl,rfl⟩,⟨rfl,rfl,rfl⟩,trivial⟩ (fun _ ext=>TL.on rfl rfl rfl rfl <| TL.fieldAddr hF rfl rfl TL.fin) ?_
   refine DH.read (i:=29) [(174,_,some 28),(171,_,some 25)] rfl rfl rfl rfl ⟨⟨rfl,rfl,rfl⟩,⟨rfl,rfl,rfl⟩,trivial⟩ (fun ext=>TL.on rfl rfl rfl rfl <| TL.load hF rfl (show At _ _ _ _ (.int .i64 1) from (hl8.ro.atA (i:=1) (show 1<2 by decide) 0 _ (by rw [show ([x8,y8]:List RH)[1]=y8 from rfl]; unfold rhC; rw [hy8]; rfl))) rfl TL.fin) ?_
   refine DH.pure (i:=30) [(175,_,some 29),(171,_,some 25)] rfl rfl rfl rfl ⟨⟨rfl,rfl,rfl⟩,⟨rfl,rfl,rfl⟩,trivial⟩ (fun _ ext=>TL.on rfl rfl rfl rfl <| TL.bin hF rfl rfl rfl rfl TL.fin) ?_
   refine DH.pure (i:=31) [(171,_,some 25),(176,_,some 30)] rfl rfl rfl rfl ⟨⟨rfl,rfl,rfl⟩,⟨rfl,rfl,rfl⟩,trivial⟩ (fun _ ext=>TL.pickT hF rfl rfl rfl rfl TL.fin) ?_
   refine DH.pure (i:=32) [(177,_,some 31)] rfl rfl rfl rfl ⟨⟨rfl,rfl,rfl⟩,trivial⟩ (fun _ ext=>TL.move hF rfl rfl TL.fin) ?_
   refine DH.pure (i:=33) [(8,_,none),(178,_,some 32)] rfl rfl rfl rfl ⟨⟨rfl,by kernel_rfl⟩,⟨rfl,rfl,rfl⟩,trivial⟩ (fun _ ext=>TL.on rfl rfl rfl rfl <| TL.move hF rfl rfl TL.fin) ?_
   refine DH.pure (i:=34) [(179,_,some 33),(178,_,some 32)] rfl rfl rfl rfl ⟨⟨rfl,rfl,rfl⟩,⟨rfl,rfl,rfl⟩,trivial⟩ (fun _ ext=>TL.on rfl rfl rfl rfl <| TL.indexAddr hF rfl rfl (hl8.ad (i:=1) (show 1<2 by decide)) (by decide) (show (1:Int)<((2:Nat):Int) by decide) rfl TL.fin) ?_
   refine DH.pure (i:=35) [(180,_,some 34),(178,_,some 32)] rfl rfl rfl rfl ⟨⟨rfl,rfl,rfl⟩,⟨rfl,rfl,rfl⟩,trivial⟩ (fun _ ext=>TL.on rfl rfl rfl rfl <| TL.fieldAddr hF rfl rfl TL.fin) ?_
   refine DH.read (i:=36) [(181,_,some 35),(178,_,some 32)] rfl rfl rfl rfl ⟨⟨rfl,rfl,rfl⟩,⟨rfl,rfl,rfl⟩,trivial⟩ (fun ext=>TL.on rfl rfl rfl rfl <| TL.load hF rfl (show At _ _ _ _ (.slice y8.a1 0 y8.c1) from (hl8.ro.atA (i:=1) (show 1<2 by decide) 1 _ (by rw [show ([x8,y8]:List RH)[1]=y8 from rfl]; unfold rhC; rw [hy8]; rfl))) rfl TL.fin) ?_
   refine DH.pure (i:=37) [(182,_,some 36),(178,_,some 32)] rfl rfl rfl rfl ⟨⟨rfl,rfl,rfl⟩,⟨rfl,rfl,rfl⟩,trivial⟩ (fun _ ext=>TL.on rfl rfl rfl rfl <| TL.len hF rfl rfl TL.fin) ?_
   refine DH.pure (i:=38) [(8,_,none),(178,_,some 32)] rfl rfl rfl rfl ⟨⟨rfl,by kernel_rfl⟩,⟨rfl,rfl,rfl⟩,trivial⟩ (fun _ ext=>TL.on rfl rfl rfl rfl <| TL.move hF rfl rfl TL.fin) ?_
   refine DH.pure (i:=39) [(184,_,some 38),(178,_,some 32)] rfl rfl rfl rfl ⟨⟨rfl,rfl,rfl⟩,⟨rfl,rfl,rfl⟩,trivial⟩ (fun _ ext=>TL.on rfl rfl rfl rfl <| TL.indexAddr hF rfl rfl (hl8.ad (i:=1) (show 1<2 by decide)) (by decide) (show (1:Int)<((2:Nat):Int) by decide) rfl TL.fin) ?_
   refine DH.pure (i:=40) [(185,_,some 39),(178,_,some 32)] rfl rfl rfl rfl ⟨⟨rfl,rfl,rfl⟩,⟨rfl,rfl,rfl⟩,trivial⟩ (fun _ ext=>TL.on rfl rfl rfl rfl <| TL.fieldAddr hF rfl rfl TL.fin) ?_
   refine DH.read (i:=41) [(186,_,some 40),(178,_,some 32)] rfl rfl rfl rfl ⟨⟨rfl,rfl,rfl⟩,⟨rfl,rfl,rfl⟩,trivial⟩ (fun ext=>TL.on rfl rfl rfl rfl <| TL.load hF rfl (show At _ _ _ _ (.slice y8.a2 0 y8.c2) from (hl8.ro.atA (i:=1) (show 1<2 by decide) 2 _ (by rw [show ([x8,y8]:List RH)[1]=y8 from rfl]; unfold rhC; rw [hy8]; rfl))) rfl TL.fin) ?_
   refine DH.pure (i:=42) [(187,_,some 41),(178,_,some 32)] rfl rfl rfl rfl ⟨⟨rfl,rfl,rfl⟩,⟨rfl,rfl,rfl⟩,trivial⟩ (fun _ ext=>TL.on rfl rfl rfl rfl <| TL.len hF rfl rfl TL.fin) ?_
   refine DH.pure (i:=43) [(183,_,some 37),(188,_,some 42),(178,_,some 32)] rfl rfl rfl rfl ⟨⟨rfl,rfl,rfl⟩,⟨rfl,rfl,rfl⟩,⟨rfl,rfl,rfl⟩,trivial⟩ (fun _ ext=>TL.on rfl rfl rfl rfl <| TL.add hF rfl rfl (by decide) (by decide) rfl TL.fin) ?_
   refine DH.pure (i:=44) [(8,_,none),(178,_,some 32)] rfl rfl rfl rfl ⟨⟨rfl,by kernel_rfl⟩,⟨rfl,rfl,rfl⟩,trivial⟩ (fun _ ext=>TL.on rfl rfl rfl rfl <| TL.move hF rfl rfl TL.fin) ?_
   refine DH.pure (i:=45) [(190,_,some 44),(178,_,some 32)] rfl rfl rfl rfl ⟨⟨rfl,rfl,rfl⟩,⟨rfl,rfl,rfl⟩,trivial⟩ (fun _ ext=>TL.on rfl rfl rfl rfl <| TL.indexAddr hF rfl rfl (hl8.ad (i:=1) (show 1<2 by decide)) (by decide) (show (1:Int)<((2:Nat):Int) by decide) rfl TL.fin) ?_
   refine DH.pure (i:=46) [(191,_,some 45),(178,_,some 32)] rfl rfl rfl rfl ⟨⟨rfl,rfl,rfl⟩,⟨rfl,rfl,rfl⟩,trivial⟩ (fun _ ext=>TL.on rfl rfl rfl rfl <| TL.fieldAddr hF rfl rfl TL.fin) ?_
   refine DH.read (i:=47) [(192,_,some 46),(178,_,some 32)] rfl rfl rfl rfl ⟨⟨rfl,rfl,rfl⟩,⟨rfl,rfl,rfl⟩,trivial⟩ (fun ext=>TL.on rfl rfl rfl rfl <| TL.load hF rfl (show At _ _ _ _ (.slice y8.a4 0 y8.c4) from (hl8.ro.atA (i:=1) (show 1<2 by decide) 4 _ (by rw [show ([x8,y8]:List RH)[1]=y8 from rfl]; unfold rhC; rw [hy8]; rfl))) rfl TL.fin) ?_
   refine DH.pure (i:=48) [(193,_,some 47),(178,_,some 32)] rfl rfl rfl rfl ⟨⟨rfl,rfl,rfl⟩,⟨rfl,rfl,rfl⟩,trivial⟩ (fun _ ext=>TL.on rfl rfl rfl rfl <| TL.len hF rfl rfl TL.fin) ?_
   refine DH.pure (i:=49) [(189,_,some 43),(194,_,some 48),(178,_,some 32)] rfl rfl rfl rfl ⟨⟨rfl,rfl,rfl⟩,⟨rfl,rfl,rfl⟩,⟨rfl,rfl,rfl⟩,trivial⟩ (fun _ ext=>TL.on rfl rfl rfl rfl <| TL.add hF rfl rfl (by decide) (by decide) rfl TL.fin) ?_
   refine DH.pure (i:=50) [(195,_,some 49),(178,_,some 32)] rfl rfl rfl rfl ⟨⟨rfl,rfl,rfl⟩,⟨rfl,rfl,rfl⟩,trivial⟩ (fun _ ext=>TL.on rfl rfl rfl rfl <| TL.bin hF rfl rfl rfl rfl TL.fin) ?_
   refine DH.pure (i:=51) [(178,_,some 32),(196,_,some 50)] rfl rfl rfl rfl ⟨⟨rfl,rfl,rfl⟩,⟨rfl,rfl,rfl⟩,trivial⟩ (fun _ ext=>TL.pickT hF rfl rfl rfl rfl TL.fin) ?_
   refine DH.pure (i:=52) [(197,_,some 51)] rfl rfl rfl rfl ⟨⟨rfl,rfl,rfl⟩,trivial⟩ (fun _ ext=>TL.move hF rfl rfl TL.fin) ?_
   refine DH.pure (i:=53) [(10,_,none),(198,_,some 52)] rfl rfl rfl rfl ⟨⟨rfl,by kernel_rfl⟩,⟨rfl,rfl,rfl⟩,trivial⟩ (fun _ ext=>TL.on rfl rfl rfl rfl <| TL.move hF rfl rfl TL.fin) ?_
   refine DH.pure (i:=54) [(199,_,some 53),(198,_,some 52)] rfl rfl rfl rfl ⟨⟨rfl,rfl,rfl⟩,⟨rfl,rfl,rfl⟩,trivial⟩ (fun _ ext=>TL.on rfl rfl rfl rfl <| TL.indexAddr hF rfl rfl (hl10.ad (i:=0) (show 0<1 by decide)) (by decide) (show (0:Int)<((1:Nat):Int) by decide) rfl TL.fin) ?_
   refine DH.read (i:=55) [(200,_,some 54),(198,_,some 52)] rfl rfl rfl rfl ⟨⟨rfl,rfl,rfl⟩,⟨rfl,rfl,rfl⟩,trivial⟩ (fun ext=>TL.on rfl rfl rfl rfl <| TL.loadA hF (rhC x10) rfl rfl (hl10.ro.atA (i:=0) (show 0<1 by decide)) rfl TL.fin) ?_
   refine DH.pure (i:=56) [(198,_,some 52)] rfl rfl rfl rfl ⟨⟨rfl,rfl,rfl⟩,trivial⟩ (fun _ ext=>TL.on rfl rfl rfl rfl <| TL.callV hF (at_fn 0 1) rfl rfl TL.fin) ?_
   refine DH.pure (i:=57) [(198,_,some 52)] rfl rfl rfl rfl ⟨⟨rfl,rfl,rfl⟩,trivial⟩ (fun _ ext=>TL.on rfl rfl rfl rfl <| TL.callV hF (at_fn 0 2) rfl rfl TL.fin) ?_
   refine DH.pure (i:=59) [(198,_,some 52)] rfl rfl rfl rfl ⟨⟨rfl,rfl,rfl⟩,trivial⟩ (fun _ ext=>TL.on rfl rfl rfl rfl <| TL.callV hF (at_fn 0 0) rfl rfl TL.fin) ?_
   refine DH.pure (i:=60) [(198,_,some 52)] rfl rfl rfl rfl ⟨⟨rfl,rfl,rfl⟩,trivial⟩ (fun _ ext=>TL.on rfl rfl rfl rfl <| TL.callV hF (at_fn 0 3) rfl rfl TL.fin) ?_
   refine DH.pure (i:=61) [(198,_,some 52)] rfl rfl rfl rfl ⟨⟨rfl,rfl,rfl⟩,trivial⟩ (fun _ ext=>TL.on rfl rfl rfl rfl <| TL.callV hF (at_fn 1 4) rfl rfl TL.fin) ?_
   refine DH.k2 (by kernel_rfl) (by kernel_rfl) (by kernel_rfl) (by kernel_rfl) (HBK.mk (h:=58) [55] [(202,_,some 56),(203,_,some 57),(198,_,some 52)] rfl rfl rfl ⟨⟨rfl,rfl,rfl⟩,⟨rfl,rfl,rfl⟩,⟨rfl,rfl,rfl⟩,trivial⟩ (by kernel_rfl) (fun ext=>?_)) (HBK.mk (h:=62) [55] [(205,_,some 59),(206,_,some 60),(207,_,some 61),(198,_,some 52)] rfl rfl rfl ⟨⟨rfl,rfl,rfl⟩,⟨rfl,rfl,rfl⟩,⟨rfl,rfl,rfl⟩,⟨rfl,rfl,rfl⟩,trivial⟩ (by kernel_rfl) (fun ext=>?_))
   ·refine TL.on rfl rfl rfl rfl ?_
    refine TL.buildSlice hF rfl (cs:=(([(0,1),(0,2)]:List Key).flatMap kC).toArray) (e:=25) (fun w=>by kernel_rfl) rfl (fun b204=>?_)
    refine TL.finK ⟨⟨_,rfl,_,_,[(200,_,some 54),(198,_,some 52)],rfl,rfl,⟨⟨rfl,rfl,rfl⟩,⟨rfl,rfl,rfl⟩,trivial⟩,fun ext=>TL.on rfl rfl rfl rfl <| TL.loadA hF (rhC x10) rfl rfl (hl10.ro.atA (i:=0) (show 0<1 by decide)) rfl TL.fin⟩,trivial⟩ ?_
    refine DH.k1 (by kernel_rfl) (by kernel_rfl) (by kernel_rfl) (by kernel_rfl) (HBK.mk (h:=62) [55] [(205,_,some 59),(206,_,some 60),(207,_,some 61),(198,_,some 52)] rfl rfl rfl ⟨⟨rfl,rfl,rfl⟩,⟨rfl,rfl,rfl⟩,⟨rfl,rfl,rfl⟩,⟨rfl,rfl,rfl⟩,trivial⟩ (by kernel_rfl) (fun ext=>?_))
    refine TL.on rfl rfl rfl rfl ?_
    refine TL.buildSlice hF rfl (cs:=(([(0,0),(0,3),(1,4)]:List Key).flatMap kC).toArray) (e:=25) (fun w=>by kernel_rfl) rfl (fun b208=>?_)
    refine TL.finK ⟨⟨_,rfl,_,_,[(200,_,some 54),(198,_,some 52)],rfl,rfl,⟨⟨rfl,rfl,rfl⟩,⟨rfl,rfl,rfl⟩,trivial⟩,fun ext=>TL.on rfl rfl rfl rfl <| TL.loadA hF (rhC x10) rfl rfl (hl10.ro.atA (i:=0) (show 0<1 by decide)) rfl TL.fin⟩,trivial⟩ ?_
    refine DH.pure (i:=63) [(204,_,some 58),(208,_,some 62),(198,_,some 52)] rfl rfl rfl rfl ⟨⟨rfl,rfl,rfl⟩,⟨rfl,rfl,rfl⟩,⟨rfl,rfl,rfl⟩,trivial⟩ (fun _ ext=>TL.on rfl rfl rfl rfl <| TL.build hF rfl (r:=.agg (rhC ⟨⟨1,[(0,1),(0,2)],[],[(0,0),(0,3),(1,4)],[]⟩,some ⟨b204,0,none⟩,2,none,0,some ⟨b208,0,none⟩,3,none,0⟩).toArray) (fun w=>by kernel_rfl) rfl TL.fin) ?_
    refine DH.done [(209,_),(208,_),(204,_),(207,_),(206,_),(205,_),(203,_),(202,_),(201,_),(200,_),(199,_),(198,_),(197,_),(196,_),(195,_),(194,_),(193,_),(192,_),(191,_),(190,_),(189,_),(188,_),(187,_),(186,_),(185,_),(184,_),(183,_),(182,_),(181,_),(180,_),(179,_),(178,_),(177,_),(176,_),(175,_),(174,_),(173,_),(172,_),(171,_),(170,_),(169,_),(168,_),(167,_),(165,_),(166,_),(164,_),(163,_),(162,_),(161,_),(160,_),(159,_),(158,_),(157,_),(156,_),(155,_),(154,_),(151,_),(153,_),(152,_),(150,_),(149,_),(148,_),(147,_),(146,_)] [_,_,_] (by kernel_rfl) (by kernel_rfl) (by kernel_rfl) (by kernel_rfl) rfl rfl ?_
    refine TL.on rfl rfl rfl rfl ?_
    refine TL.callV hF (round_true (r:=⟨1,[(0,1),(0,2)],[],[(0,0),(0,3),(1,4)],[]⟩) ((hl10.item _ (by simp)).up (by simp)) (y:=⟨⟨1,[(0,1),(0,2)],[],[(0,0),(0,3),(1,4)],[]⟩,some ⟨b204,0,none⟩,2,none,0,some ⟨b208,0,none⟩,3,none,0⟩) ⟨(row_own (b:=b204) (cs:=([(0,1),(0,2)]:List Key).flatMap kC) (e:=25) (by simp)),Row.none,(row_own (b:=b208) (cs:=([(0,0),(0,3),(1,4)]:List Key).flatMap kC) (e:=25) (by simp)),Row.none⟩ hx10 rfl (by decide)) rfl rfl ?_
    refine TL.pickT hF rfl rfl rfl rfl ?_
    refine TL.assign hF rfl rfl ?_
    refine TL.nil ?_
    refine TQ.then_n ?_
    refine T.ret ?_
    exact TQ.retsF [0] _ hb rfl rfl rfl (fun _=>rfl)
   ·refine TL.on rfl rfl rfl rfl ?_
    refine TL.buildSlice hF rfl (cs:=(([(0,0),(0,3),(1,4)]:List Key).flatMap kC).toArray) (e:=25) (fun w=>by kernel_rfl) rfl (fun b208=>?_)
    refine TL.finK ⟨⟨_,rfl,_,_,[(200,_,some 54),(198,_,some 52)],rfl,rfl,⟨⟨rfl,rfl,rfl⟩,⟨rfl,rfl,rfl⟩,trivial⟩,fun ext=>TL.on rfl rfl rfl rfl <| TL.loadA hF (rhC x10) rfl rfl (hl10.ro.atA (i:=0) (show 0<1 by decide)) rfl TL.fin⟩,trivial⟩ ?_
    refine DH.k1 (by kernel_rfl) (by kernel_rfl) (by kernel_rfl) (by kernel_rfl) (HBK.mk (h:=58) [55] [(202,_,some 56),(203,_,some 57),(198,_,some 52)] rfl rfl rfl ⟨⟨rfl,rfl,rfl⟩,⟨rfl,rfl,rfl⟩,⟨rfl,rfl,rfl⟩,trivial⟩ (by kernel_rfl) (fun ext=>?_))
    refine TL.on rfl rfl rfl rfl ?_
    refine TL.buildSlice hF rfl (cs:=(([(0,1),(0,2)]:List Key).flatMap kC).toArray) (e:=25) (fun w=>by kernel_rfl) rfl (fun b204=>?_)
    refine TL.finK ⟨⟨_,rfl,_,_,[(200,_,some 54),(198,_,some 52)],rfl,rfl,⟨⟨rfl,rfl,rfl⟩,⟨rfl,rfl,rfl⟩,trivial⟩,fun ext=>TL.on rfl rfl rfl rfl <| TL.loadA hF (rhC x10) rfl rfl (hl10.ro.atA (i:=0) (show 0<1 by decide)) rfl TL.fin⟩,trivial⟩ ?_
    refine DH.pure (i:=63) [(204,_,some 58),(208,_,some 62),(198,_,some 52)] rfl rfl rfl rfl ⟨⟨rfl,rfl,rfl⟩,⟨rfl,rfl,rfl⟩,⟨rfl,rfl,rfl⟩,trivial⟩ (fun _ ext=>TL.on rfl rfl rfl rfl <| TL.build hF rfl (r:=.agg (rhC ⟨⟨1,[(0,1),(0,2)],[],[(0,0),(0,3),(1,4)],[]⟩,some ⟨b204,0,none⟩,2,none,0,some ⟨b208,0,none⟩,3,none,0⟩).toArray) (fun w=>by kernel_rfl) rfl TL.fin) ?_
    refine DH.done [(209,_),(204,_),(208,_),(207,_),(206,_),(205,_),(203,_),(202,_),(201,_),(200,_),(199,_),(198,_),(197,_),(196,_),(195,_),(194,_),(193,_),(192,_),(191,_),(190,_),(189,_),(188,_),(187,_),(186,_),(185,_),(184,_),(183,_),(182,_),(181,_),(180,_),(179,_),(178,_),(177,_),(176,_),(175,_),(174,_),(173,_),(172,_),(171,_),(170,_),(169,_),(168,_),(167,_),(165,_),(166,_),(164,_),(163,_),(162,_),(161,_),(160,_),(159,_),(158,_),(157,_),(156,_),(155,_),(154,_),(151,_),(153,_),(152,_),(150,_),(149,_),(148,_),(147,_),(146,_)] [_,_,_] (by kernel_rfl) (by kernel_rfl) (by kernel_rfl) (by kernel_rfl) rfl rfl ?_
    refine TL.on rfl rfl rfl rfl ?_
    refine TL.callV hF (round_true (r:=⟨1,[(0,1),(0,2)],[],[(0,0),(0,3),(1,4)],[]⟩) ((hl10.item _ (by simp)).up (by simp)) (y:=⟨⟨1,[(0,1),(0,2)],[],[(0,0),(0,3),(1,4)],[]⟩,some ⟨b204,0,none⟩,2,none,0,some ⟨b208,0,none⟩,3,none,0⟩) ⟨(row_own (b:=b204) (cs:=([(0,1),(0,2)]:List Key).flatMap kC) (e:=25) (by simp)),Row.none,(row_own (b:=b208) (cs:=([(0,0),(0,3),(1,4)]:List Key).flatMap kC) (e:=25) (by simp)),Row.none⟩ hx10 rfl (by decide)) rfl rfl ?_
    refine TL.pickT hF rfl rfl rfl rfl ?_
    refine TL.assign hF rfl rfl ?_
    refine TL.nil ?_
    refine TQ.then_n ?_
    refine T.ret ?_
    exact TQ.retsF [0] _ hb rfl rfl rfl (fun _=>rfl)
  ·refine TL.on rfl rfl rfl rfl ?_
   refine TL.buildSlice hF rfl (cs:=(([(0,0)]:List Key).flatMap kC).toArray) (e:=25) (fun w=>by kernel_rfl) rfl (fun b167=>?_)
   refine TL.finK ⟨⟨_,rfl,_,_,[(159,_,some 13),(157,_,some 11)],rfl,rfl,⟨⟨rfl,rfl,rfl⟩,⟨rfl,rfl,rfl⟩,trivial⟩,fun ext=>TL.on rfl rfl rfl rfl <| TL.loadA hF (rhC x8) rfl rfl (hl8.ro.atA (i:=0) (show 0<2 by decide)) rfl TL.fin⟩,trivial⟩ ?_
   refine DH.k1 (by kernel_rfl) (by kernel_rfl) (by kernel_rfl) (by kernel_rfl) (HBK.mk (h:=19) [14] [(161,_,some 15),(162,_,some 16),(163,_,some 17),(164,_,some 18),(157,_,some 11)] rfl rfl rfl ⟨⟨rfl,rfl,rfl⟩,⟨rfl,rfl,rfl⟩,⟨rfl,rfl,rfl⟩,⟨rfl,rfl,rfl⟩,⟨rfl,rfl,rfl⟩,trivial⟩ (by kernel_rfl) (fun ext=>?_))
   refine TL.on rfl rfl rfl rfl ?_
   refine TL.buildSlice hF rfl (cs:=(([(0,1),(0,2),(0,3),(1,4)]:List Key).flatMap kC).toArray) (e:=25) (fun w=>by kernel_rfl) rfl (fun b165=>?_)
   refine TL.finK ⟨⟨_,rfl,_,_,[(159,_,some 13),(157,_,some 11)],rfl,rfl,⟨⟨rfl,rfl,rfl⟩,⟨rfl,rfl,rfl⟩,trivial⟩,fun ext=>TL.on rfl rfl rfl rfl <| TL.loadA hF (rhC x8) rfl rfl (hl8.ro.atA (i:=0) (show 0<2 by decide)) rfl TL.fin⟩,trivial⟩ ?_
   refine DH.pure (i:=22) [(165,_,some 19),(167,_,some 21),(157,_,some 11)] rfl rfl rfl rfl ⟨⟨rfl,rfl,rfl⟩,⟨rfl,rfl,rfl⟩,⟨rfl,rfl,rfl⟩,trivial⟩ (fun _ ext=>TL.on rfl rfl rfl rfl <| TL.build hF rfl (r:=.agg (rhC ⟨⟨1,[(0,1),(0,2),(0,3),(1,4)],[],[(0,0)],[]⟩,some ⟨b165,0,none⟩,4,none,0,some ⟨b167,0,none⟩,1,none,0⟩).toArray) (fun w=>by kernel_rfl) rfl TL.fin) ?_
   refine DH.read (i:=23) [(160,_,some 14),(168,_,some 22),(157,_,some 11)] rfl rfl rfl rfl ⟨⟨rfl,rfl,rfl⟩,⟨rfl,rfl,rfl⟩,⟨rfl,rfl,rfl⟩,trivial⟩ (fun ext=>TL.on rfl rfl rfl rfl <| TL.callV hF (round_true (r:=⟨1,[(0,1),(0,2),(0,3),(1,4)],[],[(0,0)],[]⟩) ((hl8.item _ (by simp)).up (by simp)) (y:=⟨⟨1,[(0,1),(0,2),(0,3),(1,4)],[],[(0,0)],[]⟩,some ⟨b165,0,none⟩,4,none,0,some ⟨b167,0,none⟩,1,none,0⟩) ⟨(row_own (b:=b165) (cs:=([(0,1),(0,2),(0,3),(1,4)]:List Key).flatMap kC) (e:=25) (by simp)),Row.none,(row_own (b:=b167) (cs:=([(0,0)]:List Key).flatMap kC) (e:=25) (by simp)),Row.none⟩ hx8 rfl (by decide)) rfl rfl TL.fin) ?_
   refine DH.pure (i:=24) [(157,_,some 11),(169,_,some 23)] rfl rfl rfl rfl ⟨⟨rfl,rfl,rfl⟩,⟨rfl,rfl,rfl⟩,trivial⟩ (fun _ ext=>TL.pickT hF rfl rfl rfl rfl TL.fin) ?_
   refine DH.pure (i:=25) [(170,_,some 24)] rfl rfl rfl rfl ⟨⟨rfl,rfl,rfl⟩,trivial⟩ (fun _ ext=>TL.move hF rfl rfl TL.fin) ?_
   refine DH.pure (i:=26) [(8,_,none),(171,_,some 25)] rfl rfl rfl rfl ⟨⟨rfl,by kernel_rfl⟩,⟨rfl,rfl,rfl⟩,trivial⟩ (fun _ ext=>TL.on rfl rfl rfl rfl <| TL.move hF rfl rfl TL.fin) ?_
   refine DH.pure (i:=27) [(172,_,some 26),(171,_,some 25)] rfl rfl rfl rfl ⟨⟨rfl,rfl,rfl⟩,⟨rfl,rfl,rfl⟩,trivial⟩ (fun _ ext=>TL.on rfl rfl rfl rfl <| TL.indexAddr hF rfl rfl (hl8.ad (i:=1) (show 1<2 by decide)) (by decide) (show (1:Int)<((2:Nat):Int) by decide) rfl TL.fin) ?_
   refine DH.pure (i:=28) [(173,_,some 27),(171,_,some 25)] rfl rfl rfl rfl ⟨⟨rfl,rfl,rfl⟩,⟨rfl,rfl,rfl⟩,trivial⟩ (fun _ ext=>TL.on rfl rfl rfl rfl <| TL.fieldAddr hF rfl rfl TL.fin) ?_
   refine DH.read (i:=29) [(174,_,some 28),(171,_,some 25)] rfl rfl rfl rfl ⟨⟨rfl,rfl,rfl⟩,⟨rfl,rfl,rfl⟩,trivial⟩ (fun ext=>TL.on rfl rfl rfl rfl <| TL.load hF rfl (show At _ _ _ _ (.int .i64 1) from (hl8.ro.atA (i:=1) (show 1<2 by decide) 0 _ (by rw [show ([x8,y8]:List RH)[1]=y8 from rfl]; unfold rhC; rw [hy8]; rfl))) rfl TL.fin) ?_
   refine DH.pure (i:=30) [(175,_,some 29),(171,_,some 25)] rfl rfl rfl rfl ⟨⟨rfl,rfl,rfl⟩,⟨rfl,rfl,rfl⟩,trivial⟩ (fun _ ext=>TL.on rfl rfl rfl rfl <| TL.bin hF rfl rfl rfl rfl TL.fin) ?_
   refine DH.pure (i:=31) [(171,_,some 25),(176,_,some 30)] rfl rfl rfl rfl ⟨⟨rfl,rfl,rfl⟩,⟨rfl,rfl,rfl⟩,trivial⟩ (fun _ ext=>TL.pickT hF rfl rfl rfl rfl TL.fin) ?_
   refine DH.pure (i:=32) [(177,_,some 31)] rfl rfl rfl rfl ⟨⟨rfl,rfl,rfl⟩,trivial⟩ (fun _ ext=>TL.move hF rfl rfl TL.fin) ?_
   refine DH.pure (i:=33) [(8,_,none),(178,_,some 32)] rfl rfl rfl rfl ⟨⟨rfl,by kernel_rfl⟩,⟨rfl,rfl,rfl⟩,trivial⟩ (fun _ ext=>TL.on rfl rfl rfl rfl <| TL.move hF rfl rfl TL.fin) ?_
   refine DH.pure (i:=34) [(179,_,some 33),(178,_,some 32)] rfl rfl rfl rfl ⟨⟨rfl,rfl,rfl⟩,⟨rfl,rfl,rfl⟩,trivial⟩ (fun _ ext=>TL.on rfl rfl rfl rfl <| TL.indexAddr hF rfl rfl (hl8.ad (i:=1) (show 1<2 by decide)) (by decide) (show (1:Int)<((2:Nat):Int) by decide) rfl TL.fin) ?_
   refine DH.pure (i:=35) [(180,_,some 34),(178,_,some 32)] rfl rfl rfl rfl ⟨⟨rfl,rfl,rfl⟩,⟨rfl,rfl,rfl⟩,trivial⟩ (fun _ ext=>TL.on rfl rfl rfl rfl <| TL.fieldAddr hF rfl rfl TL.fin) ?_
   refine DH.read (i:=36) [(181,_,some 35),(178,_,some 32)] rfl rfl rfl rfl ⟨⟨rfl,rfl,rfl⟩,⟨rfl,rfl,rfl⟩,trivial⟩ (fun ext=>TL.on rfl rfl rfl rfl <| TL.load hF rfl (show At _ _ _ _ (.slice y8.a1 0 y8.c1) from (hl8.ro.atA (i:=1) (show 1<2 by decide) 1 _ (by rw [show ([x8,y8]:List RH)[1]=y8 from rfl]; unfold rhC; rw [hy8]; rfl))) rfl TL.fin) ?_
   refine DH.pure (i:=37) [(182,_,some 36),(178,_,some 32)] rfl rfl rfl rfl ⟨⟨rfl,rfl,rfl⟩,⟨rfl,rfl,rfl⟩,trivial⟩ (fun _ ext=>TL.on rfl rfl rfl rfl <| TL.len hF rfl rfl TL.fin) ?_
   refine DH.pure (i:=38) [(8,_,none),(178,_,some 32)] rfl rfl rfl rfl ⟨⟨rfl,by kernel_rfl⟩,⟨rfl,rfl,rfl⟩,trivial⟩ (fun _ ext=>TL.on rfl rfl rfl rfl <| TL.move hF rfl rfl TL.fin) ?_
   refine DH.pure (i:=39) [(184,_,some 38),(178,_,some 32)] rfl rfl rfl rfl ⟨⟨rfl,rfl,rfl⟩,⟨rfl,rfl,rfl⟩,trivial⟩ (fun _ ext=>TL.on rfl rfl rfl rfl <| TL.indexAddr hF rfl rfl (hl8.ad (i:=1) (show 1<2 by decide)) (by decide) (show (1:Int)<((2:Nat):Int) by decide) rfl TL.fin) ?_
   refine DH.pure (i:=40) [(185,_,some 39),(178,_,some 32)] rfl rfl rfl rfl ⟨⟨rfl,rfl,rfl⟩,⟨rfl,rfl,rfl⟩,trivial⟩ (fun _ ext=>TL.on rfl rfl rfl rfl <| TL.fieldAddr hF rfl rfl TL.fin) ?_
   refine DH.read (i:=41) [(186,_,some 40),(178,_,some 32)] rfl rfl rfl rfl ⟨⟨rfl,rfl,rfl⟩,⟨rfl,rfl,rfl⟩,trivial⟩ (fun ext=>TL.on rfl rfl rfl rfl <| TL.load hF rfl (show At _ _ _ _ (.slice y8.a2 0 y8.c2) from (hl8.ro.atA (i:=1) (show 1<2 by decide) 2 _ (by rw [show ([x8,y8]:List RH)[1]=y8 from rfl]; unfold rhC; rw [hy8]; rfl))) rfl TL.fin) ?_
   refine DH.pure (i:=42) [(187,_,some 41),(178,_,some 32)] rfl rfl rfl rfl ⟨⟨rfl,rfl,rfl⟩,⟨rfl,rfl,rfl⟩,trivial⟩ (fun _ ext=>TL.on rfl rfl rfl rfl <| TL.len hF rfl rfl TL.fin) ?_
   refine DH.pure (i:=43) [(183,_,some 37),(188,_,some 42),(178,_,some 32)] rfl rfl rfl rfl ⟨⟨rfl,rfl,rfl⟩,⟨rfl,rfl,rfl⟩,⟨rfl,rfl,rfl⟩,trivial⟩ (fun _ ext=>TL.on rfl rfl rfl rfl <| TL.add hF rfl rfl (by decide) (by decide) rfl TL.fin) ?_
   refine DH.pure (i:=44) [(8,_,none),(178,_,some 32)] rfl rfl rfl rfl ⟨⟨rfl,by kernel_rfl⟩,⟨rfl,rfl,rfl⟩,trivial⟩ (fun _ ext=>TL.on rfl rfl rfl rfl <| TL.move hF rfl rfl TL.fin) ?_
   refine DH.pure (i:=45) [(190,_,some 44),(178,_,some 32)] rfl rfl rfl rfl ⟨⟨rfl,rfl,rfl⟩,⟨rfl,rfl,rfl⟩,trivial⟩ (fun _ ext=>TL.on rfl rfl rfl rfl <| TL.indexAddr hF rfl rfl (hl8.ad (i:=1) (show 1<2 by decide)) (by decide) (show (1:Int)<((2:Nat):Int) by decide) rfl TL.fin) ?_
   refine DH.pure (i:=46) [(191,_,some 45),(178,_,some 32)] rfl rfl rfl rfl ⟨⟨rfl,rfl,rfl⟩,⟨rfl,rfl,rfl⟩,trivial⟩ (fun _ ext=>TL.on rfl rfl rfl rfl <| TL.fieldAddr hF rfl rfl TL.fin) ?_
   refine DH.read (i:=47) [(192,_,some 46),(178,_,some 32)] rfl rfl rfl rfl ⟨⟨rfl,rfl,rfl⟩,⟨rfl,rfl,rfl⟩,trivial⟩ (fun ext=>TL.on rfl rfl rfl rfl <| TL.load hF rfl (show At _ _ _ _ (.slice y8.a4 0 y8.c4) from (hl8.ro.atA (i:=1) (show 1<2 by decide) 4 _ (by rw [show ([x8,y8]:List RH)[1]=y8 from rfl]; unfold rhC; rw [hy8]; rfl))) rfl TL.fin) ?_
   refine DH.pure (i:=48) [(193,_,some 47),(178,_,some 32)] rfl rfl rfl rfl ⟨⟨rfl,rfl,rfl⟩,⟨rfl,rfl,rfl⟩,trivial⟩ (fun _ ext=>TL.on rfl rfl rfl rfl <| TL.len hF rfl rfl TL.fin) ?_
   refine DH.pure (i:=49) [(189,_,some 43),(194,_,some 48),(178,_,some 32)] rfl rfl rfl rfl ⟨⟨rfl,rfl,rfl⟩,⟨rfl,rfl,rfl⟩,⟨rfl,rfl,rfl⟩,trivial⟩ (fun _ ext=>TL.on rfl rfl rfl rfl <| TL.add hF rfl rfl (by decide) (by decide) rfl TL.fin) ?_
   refine DH.pure (i:=50) [(195,_,some 49),(178,_,some 32)] rfl rfl rfl rfl ⟨⟨rfl,rfl,rfl⟩,⟨rfl,rfl,rfl⟩,trivial⟩ (fun _ ext=>TL.on rfl rfl rfl rfl <| TL.bin hF rfl rfl rfl rfl TL.fin) ?_
   refine DH.pure (i:=51) [(178,_,some 32),(196,_,some 50)] rfl rfl rfl rfl ⟨⟨rfl,rfl,rfl⟩,⟨rfl,rfl,rfl⟩,trivial⟩ (fun _ ext=>TL.pickT hF rfl rfl rfl rfl TL.fin) ?_
   refine DH.pure (i:=52) [(197,_,some 51)] rfl rfl rfl rfl ⟨⟨rfl,rfl,rfl⟩,trivial⟩ (fun _ ext=>TL.move hF rfl rfl TL.fin) ?_
   refine DH.pure (i:=53) [(10,_,none),(198,_,some 52)] rfl rfl rfl rfl ⟨⟨rfl,by kernel_rfl⟩,⟨rfl,rfl,rfl⟩,trivial⟩ (fun _ ext=>TL.on rfl rfl rfl rfl <| TL.move hF rfl rfl TL.fin) ?_
   refine DH.pure (i:=54) [(199,_,some 53),(198,_,some 52)] rfl rfl rfl rfl ⟨⟨rfl,rfl,rfl⟩,⟨rfl,rfl,rfl⟩,trivial⟩ (fun _ ext=>TL.on rfl rfl rfl rfl <| TL.indexAddr hF rfl rfl (hl10.ad (i:=0) (show 0<1 by decide)) (by decide) (show (0:Int)<((1:Nat):Int) by decide) rfl TL.fin) ?_
   refine DH.read (i:=55) [(200,_,some 54),(198,_,some 52)] rfl rfl rfl rfl ⟨⟨rfl,rfl,rfl⟩,⟨rfl,rfl,rfl⟩,trivial⟩ (fun ext=>TL.on rfl rfl rfl rfl <| TL.loadA hF (rhC x10) rfl rfl (hl10.ro.atA (i:=0) (show 0<1 by decide)) rfl TL.fin) ?_
   refine DH.pure (i:=56) [(198,_,some 52)] rfl rfl rfl rfl ⟨⟨rfl,rfl,rfl⟩,trivial⟩ (fun _ ext=>TL.on rfl rfl rfl rfl <| TL.callV hF (at_fn 0 1) rfl rfl TL.fin) ?_
   refine DH.pure (i:=57) [(198,_,some 52)] rfl rfl rfl rfl ⟨⟨rfl,rfl,rfl⟩,trivial⟩ (fun _ ext=>TL.on rfl rfl rfl rfl <| TL.callV hF (at_fn 0 2) rfl rfl TL.fin) ?_
   refine DH.pure (i:=59) [(198,_,some 52)] rfl rfl rfl rfl ⟨⟨rfl,rfl,rfl⟩,trivial⟩ (fun _ ext=>TL.on rfl rfl rfl rfl <| TL.callV hF (at_fn 0 0) rfl rfl TL.fin) ?_
   refine DH.pure (i:=60) [(198,_,some 52)] rfl rfl rfl rfl ⟨⟨rfl,rfl,rfl⟩,trivial⟩ (fun _ ext=>TL.on rfl rfl rfl rfl <| TL.callV hF (at_fn 0 3) rfl rfl TL.fin) ?_
   refine DH.pure (i:=61) [(198,_,some 52)] rfl rfl rfl rfl ⟨⟨rfl,rfl,rfl⟩,trivial⟩ (fun _ ext=>TL.on rfl rfl rfl rfl <| TL.callV hF (at_fn 1 4) rfl rfl TL.fin) ?_
   refine DH.k2 (by kernel_rfl) (by kernel_rfl) (by kernel_rfl) (by kernel_rfl) (HBK.mk (h:=58) [55] [(202,_,some 56),(203,_,some 57),(198,_,some 52)] rfl rfl rfl ⟨⟨rfl,rfl,rfl⟩,⟨rfl,rfl,rfl⟩,⟨rfl,rfl,rfl⟩,trivial⟩ (by kernel_rfl) (fun ext=>?_)) (HBK.mk (h:=62) [55] [(205,_,some 59),(206,_,some 60),(207,_,some 61),(198,_,some 52)] rfl rfl rfl ⟨⟨rfl,rfl,rfl⟩,⟨rfl,rfl,rfl⟩,⟨rfl,rfl,rfl⟩,⟨rfl,rfl,rfl⟩,trivial⟩ (by kernel_rfl) (fun ext=>?_))
   ·refine TL.on rfl rfl rfl rfl ?_
    refine TL.buildSlice hF rfl (cs:=(([(0,1),(0,2)]:List Key).flatMap kC).toArray) (e:=25) (fun w=>by kernel_rfl) rfl (fun b204=>?_)
    refine TL.finK ⟨⟨_,rfl,_,_,[(200,_,some 54),(198,_,some 52)],rfl,rfl,⟨⟨rfl,rfl,rfl⟩,⟨rfl,rfl,rfl⟩,trivial⟩,fun ext=>TL.on rfl rfl rfl rfl <| TL.loadA hF (rhC x10) rfl rfl (hl10.ro.atA (i:=0) (show 0<1 by decide)) rfl TL.fin⟩,trivial⟩ ?_
    refine DH.k1 (by kernel_rfl) (by kernel_rfl) (by kernel_rfl) (by kernel_rfl) (HBK.mk (h:=62) [55] [(205,_,some 59),(206,_,some 60),(207,_,some 61),(198,_,some 52)] rfl rfl rfl ⟨⟨rfl,rfl,rfl⟩,⟨rfl,rfl,rfl⟩,⟨rfl,rfl,rfl⟩,⟨rfl,rfl,rfl⟩,trivial⟩ (by kernel_rfl) (fun ext=>?_))
    refine TL.on rfl rfl rfl rfl ?_
    refine TL.buildSlice hF rfl (cs:=(([(0,0),(0,3),(1,4)]:List Key).flatMap kC).toArray) (e:=25) (fun w=>by kernel_rfl) rfl (fun b208=>?_)
    refine TL.finK ⟨⟨_,rfl,_,_,[(200,_,some 54),(198,_,some 52)],rfl,rfl,⟨⟨rfl,rfl,rfl⟩,⟨rfl,rfl,rfl⟩,trivial⟩,fun ext=>TL.on rfl rfl rfl rfl <| TL.loadA hF (rhC x10) rfl rfl (hl10.ro.atA (i:=0) (show 0<1 by decide)) rfl TL.fin⟩,trivial⟩ ?_
    refine DH.pure (i:=63) [(204,_,some 58),(208,_,some 62),(198,_,some 52)] rfl rfl rfl rfl ⟨⟨rfl,rfl,rfl⟩,⟨rfl,rfl,rfl⟩,⟨rfl,rfl,rfl⟩,trivial⟩ (fun _ ext=>TL.on rfl rfl rfl rfl <| TL.build hF rfl (r:=.agg (rhC ⟨⟨1,[(0,1),(0,2)],[],[(0,0),(0,3),(1,4)],[]⟩,some ⟨b204,0,none⟩,2,none,0,some ⟨b208,0,none⟩,3,none,0⟩).toArray) (fun w=>by kernel_rfl) rfl TL.fin) ?_
    refine DH.done [(209,_),(208,_),(204,_),(207,_),(206,_),(205,_),(203,_),(202,_),(201,_),(200,_),(199,_),(198,_),(197,_),(196,_),(195,_),(194,_),(193,_),(192,_),(191,_),(190,_),(189,_),(188,_),(187,_),(186,_),(185,_),(184,_),(183,_),(182,_),(181,_),(180,_),(179,_),(178,_),(177,_),(176,_),(175,_),(174,_),(173,_),(172,_),(171,_),(170,_),(169,_),(168,_),(165,_),(167,_),(166,_),(164,_),(163,_),(162,_),(161,_),(160,_),(159,_),(158,_),(157,_),(156,_),(155,_),(154,_),(151,_),(153,_),(152,_),(150,_),(149,_),(148,_),(147,_),(146,_)] [_,_,_] (by kernel_rfl) (by kernel_rfl) (by kernel_rfl) (by kernel_rfl) rfl rfl ?_
    refine TL.on rfl rfl rfl rfl ?_
    refine TL.callV hF (round_true (r:=⟨1,[(0,1),(0,2)],[],[(0,0),(0,3),(1,4)],[]⟩) ((hl10.item _ (by simp)).up (by simp)) (y:=⟨⟨1,[(0,1),(0,2)],[],[(0,0),(0,3),(1,4)],[]⟩,some ⟨b204,0,none⟩,2,none,0,some ⟨b208,0,none⟩,3,none,0⟩) ⟨(row_own (b:=b204) (cs:=([(0,1),(0,2)]:List Key).flatMap kC) (e:=25) (by simp)),Row.none,(row_own (b:=b208) (cs:=([(0,0),(0,3),(1,4)]:List Key).flatMap kC) (e:=25) (by simp)),Row.none⟩ hx10 rfl (by decide)) rfl rfl ?_
    refine TL.pickT hF rfl rfl rfl rfl ?_
    refine TL.assign hF rfl rfl ?_
    refine TL.nil ?_
    refine TQ.then_n ?_
    refine T.ret ?_
    exact TQ.retsF [0] _ hb rfl rfl rfl (fun _=>rfl)
   ·refine TL.on rfl rfl rfl rfl ?_
    refine TL.buildSlice hF rfl (cs:=(([(0,0),(0,3),(1,4)]:List Key).flatMap kC).toArray) (e:=25) (fun w=>by kernel_rfl) rfl (fun b208=>?_)
    refine TL.finK ⟨⟨_,rfl,_,_,[(200,_,some 54),(198,_,some 52)],rfl,rfl,⟨⟨rfl,rfl,rfl⟩,⟨rfl,rfl,rfl⟩,trivial⟩,fun ext=>TL.on rfl rfl rfl rfl <| TL.loadA hF (rhC x10) rfl rfl (hl10.ro.atA (i:=0) (show 0<1 by decide)) rfl TL.fin⟩,trivial⟩ ?_
    refine DH.k1 (by kernel_rfl) (by kernel_rfl) (by kernel_rfl) (by kernel_rfl) (HBK.mk (h:=58) [55] [(202,_,some 56),(203,_,some 57),(198,_,some 52)] rfl rfl rfl ⟨⟨rfl,rfl,rfl⟩,⟨rfl,rfl,rfl⟩,⟨rfl,rfl,rfl⟩,trivial⟩ (by kernel_rfl) (fun ext=>?_))
    refine TL.on rfl rfl rfl rfl ?_
    refine TL.buildSlice hF rfl (cs:=(([(0,1),(0,2)]:List Key).flatMap kC).toArray) (e:=25) (fun w=>by kernel_rfl) rfl (fun b204=>?_)
    refine TL.finK ⟨⟨_,rfl,_,_,[(200,_,some 54),(198,_,some 52)],rfl,rfl,⟨⟨rfl,rfl,rfl⟩,⟨rfl,rfl,rfl⟩,trivial⟩,fun ext=>TL.on rfl rfl rfl rfl <| TL.loadA hF (rhC x10) rfl rfl (hl10.ro.atA (i:=0) (show 0<1 by decide)) rfl TL.fin⟩,trivial⟩ ?_
    refine DH.pure (i:=63) [(204,_,some 58),(208,_,some 62),(198,_,some 52)] rfl rfl rfl rfl ⟨⟨rfl,rfl,rfl⟩,⟨rfl,rfl,rfl⟩,⟨rfl,rfl,rfl⟩,trivial⟩ (fun _ ext=>TL.on rfl rfl rfl rfl <| TL.build hF rfl (r:=.agg (rhC ⟨⟨1,[(0,1),(0,2)],[],[(0,0),(0,3),(1,4)],[]⟩,some ⟨b204,0,none⟩,2,none,0,some ⟨b208,0,none⟩,3,none,0⟩).toArray) (fun w=>by kernel_rfl) rfl TL.fin) ?_
    refine DH.done [(209,_),(204,_),(208,_),(207,_),(206,_),(205,_),(203,_),(202,_),(201,_),(200,_),(199,_),(198,_),(197,_),(196,_),(195,_),(194,_),(193,_),(192,_),(191,_),(190,_),(189,_),(188,_),(187,_),(186,_),(185,_),(184,_),(183,_),(182,_),(181,_),(180,_),(179,_),(178,_),(177,_),(176,_),(175,_),(174,_),(173,_),(172,_),(171,_),(170,_),(169,_),(168,_),(165,_),(167,_),(166,_),(164,_),(163,_),(162,_),(161,_),(160,_),(159,_),(158,_),(157,_),(156,_),(155,_),(154,_),(151,_),(153,_),(152,_),(150,_),(149,_),(148,_),(147,_),(146,_)] [_,_,_] (by kernel_rfl) (by kernel_rfl) (by kernel_rfl) (by kernel_rfl) rfl rfl ?_
    refine TL.on rfl rfl rfl rfl ?_
    refine TL.callV hF (round_true (r:=⟨1,[(0,1),(0,2)],[],[(0,0),(0,3),(1,4)],[]⟩) ((hl10.item _ (by simp)).up (by simp)) (y:=⟨⟨1,[(0,1),(0,2)],[],[(0,0),(0,3),(1,4)],[]⟩,some ⟨b204,0,none⟩,2,none,0,some ⟨b208,0,none⟩,3,none,0⟩) ⟨(row_own (b:=b204) (cs:=([(0,1),(0,2)]:List Key).flatMap kC) (e:=25) (by simp)),Row.none,(row_own (b:=b208) (cs:=([(0,0),(0,3),(1,4)]:List Key).flatMap kC) (e:=25) (by simp)),Row.none⟩ hx10 rfl (by decide)) rfl rfl ?_
    refine TL.pickT hF rfl rfl rfl rfl ?_
    refine TL.assign hF rfl rfl ?_
    refine TL.nil ?_
    refine TQ.then_n ?_
    refine T.ret ?_
    exact TQ.retsF [0] _ hb rfl rfl rfl (fun _=>rfl)
 ·refine TL.buildSlice hF rfl (cs:=(([(0,0),(0,1)]:List Key).flatMap kC).toArray) (e:=25) (fun w=>by kernel_rfl) rfl (fun b154=>?_)
  refine TL.finK ⟨⟨_,rfl,_,_,[(147,_,some 1)],rfl,rfl,⟨⟨rfl,rfl,rfl⟩,trivial⟩,fun ext=>TL.loadA hF (rhC x6) rfl rfl (hl6.ro.atA (i:=0) (show 0<1 by decide)) rfl TL.fin⟩,trivial⟩ ?_
  refine DH.k1 (by kernel_rfl) (by kernel_rfl) (by kernel_rfl) (by kernel_rfl) (HBK.mk (h:=5) [2] [(149,_,some 3),(150,_,some 4)] rfl rfl rfl ⟨⟨rfl,rfl,rfl⟩,⟨rfl,rfl,rfl⟩,trivial⟩ (by kernel_rfl) (fun ext=>?_))
  refine TL.buildSlice hF rfl (cs:=(([(0,2),(0,3)]:List Key).flatMap kC).toArray) (e:=25) (fun w=>by kernel_rfl) rfl (fun b151=>?_)
  refine TL.finK ⟨⟨_,rfl,_,_,[(147,_,some 1)],rfl,rfl,⟨⟨rfl,rfl,rfl⟩,trivial⟩,fun ext=>TL.loadA hF (rhC x6) rfl rfl (hl6.ro.atA (i:=0) (show 0<1 by decide)) rfl TL.fin⟩,trivial⟩ ?_
  refine DH.pure (i:=9) [(151,_,some 5),(154,_,some 8)] rfl rfl rfl rfl ⟨⟨rfl,rfl,rfl⟩,⟨rfl,rfl,rfl⟩,trivial⟩ (fun _ ext=>TL.build hF rfl (r:=.agg (rhC ⟨⟨14,[(0,2),(0,3)],[],[(0,0),(0,1)],[]⟩,some ⟨b151,0,none⟩,2,none,0,some ⟨b154,0,none⟩,2,none,0⟩).toArray) (fun w=>by kernel_rfl) rfl TL.fin) ?_
  refine DH.read (i:=10) [(148,_,some 2),(155,_,some 9)] rfl rfl rfl rfl ⟨⟨rfl,rfl,rfl⟩,⟨rfl,rfl,rfl⟩,trivial⟩ (fun ext=>TL.callV hF (round_true (r:=⟨14,[(0,2),(0,3)],[],[(0,0),(0,1)],[]⟩) ((hl6.item _ (by simp)).up (by simp)) (y:=⟨⟨14,[(0,2),(0,3)],[],[(0,0),(0,1)],[]⟩,some ⟨b151,0,none⟩,2,none,0,some ⟨b154,0,none⟩,2,none,0⟩) ⟨(row_own (b:=b151) (cs:=([(0,2),(0,3)]:List Key).flatMap kC) (e:=25) (by simp)),Row.none,(row_own (b:=b154) (cs:=([(0,0),(0,1)]:List Key).flatMap kC) (e:=25) (by simp)),Row.none⟩ hx6 rfl (by decide)) rfl rfl TL.fin) ?_
  refine DH.pure (i:=11) [(156,_,some 10)] rfl rfl rfl rfl ⟨⟨rfl,rfl,rfl⟩,trivial⟩ (fun _ ext=>TL.move hF rfl rfl TL.fin) ?_
  refine DH.pure (i:=12) [(8,_,none),(157,_,some 11)] rfl rfl rfl rfl ⟨⟨rfl,by kernel_rfl⟩,⟨rfl,rfl,rfl⟩,trivial⟩ (fun _ ext=>TL.on rfl rfl rfl rfl <| TL.move hF rfl rfl TL.fin) ?_
  refine DH.pure (i:=13) [(158,_,some 12),(157,_,some 11)] rfl rfl rfl rfl ⟨⟨rfl,rfl,rfl⟩,⟨rfl,rfl,rfl⟩,trivial⟩ (fun _ ext=>TL.on rfl rfl rfl rfl <| TL.indexAddr hF rfl rfl (hl8.ad (i:=0) (show 0<2 by decide)) (by decide) (show (0:Int)<((2:Nat):Int) by decide) rfl TL.fin) ?_
  refine DH.read (i:=14) [(159,_,some 13),(157,_,some 11)] rfl rfl rfl rfl ⟨⟨rfl,rfl,rfl⟩,⟨rfl,rfl,rfl⟩,trivial⟩ (fun ext=>TL.on rfl rfl rfl rfl <| TL.loadA hF (rhC x8) rfl rfl (hl8.ro.atA (i:=0) (show 0<2 by decide)) rfl TL.fin) ?_
  refine DH.pure (i:=15) [(157,_,some 11)] rfl rfl rfl rfl ⟨⟨rfl,rfl,rfl⟩,trivial⟩ (fun _ ext=>TL.on rfl rfl rfl rfl <| TL.callV hF (at_fn 0 1) rfl rfl TL.fin) ?_
  refine DH.pure (i:=16) [(157,_,some 11)] rfl rfl rfl rfl ⟨⟨rfl,rfl,rfl⟩,trivial⟩ (fun _ ext=>TL.on rfl rfl rfl rfl <| TL.callV hF (at_fn 0 2) rfl rfl TL.fin) ?_
  refine DH.pure (i:=17) [(157,_,some 11)] rfl rfl rfl rfl ⟨⟨rfl,rfl,rfl⟩,trivial⟩ (fun _ ext=>TL.on rfl rfl rfl rfl <| TL.callV hF (at_fn 0 3) rfl rfl TL.fin) ?_
  refine DH.pure (i:=18) [(157,_,some 11)] rfl rfl rfl rfl ⟨⟨rfl,rfl,rfl⟩,trivial⟩ (fun _ ext=>TL.on rfl rfl rfl rfl <| TL.callV hF (at_fn 1 4) rfl rfl TL.fin) ?_
  refine DH.pure (i:=20) [(157,_,some 11)] rfl rfl rfl rfl ⟨⟨rfl,rfl,rfl⟩,trivial⟩ (fun _ ext=>TL.on rfl rfl rfl rfl <| TL.callV hF (at_fn 0 0) rfl rfl TL.fin) ?_
  refine DH.k2 (by kernel_rfl) (by kernel_rfl) (by kernel_rfl) (by kernel_rfl) (HBK.mk (h:=19) [14] [(161,_,some 15),(162,_,some 16),(163,_,some 17),(164,_,some 18),(157,_,some 11)] rfl rfl rfl ⟨⟨rfl,rfl,rfl⟩,⟨rfl,rfl,rfl⟩,⟨rfl,rfl,rfl⟩,⟨rfl,rfl,rfl⟩,⟨rfl,rfl,rfl⟩,trivial⟩ (by kernel_rfl) (fun ext=>?_)) (HBK.mk (h:=21) [14] [(166,_,some 20),(157,_,some 11)] rfl rfl rfl ⟨⟨rfl,rfl,rfl⟩,⟨rfl,rfl,rfl⟩,trivial⟩ (by kernel_rfl) (fun ext=>?_))
  ·refine TL.on rfl rfl rfl rfl ?_
   refine TL.buildSlice hF rfl (cs:=(([(0,1),(0,2),(0,3),(1,4)]:List Key).flatMap kC).toArray) (e:=25) (fun w=>by kernel_rfl) rfl (fun b165=>?_)
   refine TL.finK ⟨⟨_,rfl,_,_,[(159,_,some 13),(157,_,some 11)],rfl,rfl,⟨⟨rfl,rfl,rfl⟩,⟨rfl,rfl,rfl⟩,trivial⟩,fun ext=>TL.on rfl rfl rfl rfl <| TL.loadA hF (rhC x8) rfl rfl (hl8.ro.atA (i:=0) (show 0<2 by decide)) rfl TL.fin⟩,trivial⟩ ?_
   refine DH.k1 (by kernel_rfl) (by kernel_rfl) (by kernel_rfl) (by kernel_rfl) (HBK.mk (h:=21) [14] [(166,_,some 20),(157,_,some 11)] rfl rfl rfl ⟨⟨rfl,rfl,rfl⟩,⟨rfl,rfl,rfl⟩,trivial⟩ (by kernel_rfl) (fun ext=>?_))
   refine TL.on rfl rfl rfl rfl ?_
   refine TL.buildSlice hF rfl (cs:=(([(0,0)]:List Key).flatMap kC).toArray) (e:=25) (fun w=>by kernel_rfl) rfl (fun b167=>?_)
   refine TL.finK ⟨⟨_,rfl,_,_,[(159,_,some 13),(157,_,some 11)],rfl,rfl,⟨⟨rfl,rfl,rfl⟩,⟨rfl,rfl,rfl⟩,trivial⟩,fun ext=>TL.on rfl rfl rfl rfl <| TL.loadA hF (rhC x8) rfl rfl (hl8.ro.atA (i:=0) (show 0<2 by decide)) rfl TL.fin⟩,trivial⟩ ?_
   refine DH.pure (i:=22) [(165,_,some 19),(167,_,some 21),(157,_,some 11)] rfl rfl rfl rfl ⟨⟨rfl,rfl,rfl⟩,⟨rfl,rfl,rfl⟩,⟨rfl,rfl,rfl⟩,trivial⟩ (fun _ ext=>TL.on rfl rfl rfl rfl <| TL.build hF rfl (r:=.agg (rhC ⟨⟨1,[(0,1),(0,2),(0,3),(1,4)],[],[(0,0)],[]⟩,some ⟨b165,0,none⟩,4,none,0,some ⟨b167,0,none⟩,1,none,0⟩).toArray) (fun w=>by kernel_rfl) rfl TL.fin) ?_
   refine DH.read (i:=23) [(160,_,some 14),(168,_,some 22),(157,_,some 11)] rfl rfl rfl rfl ⟨⟨rfl,rfl,rfl⟩,⟨rfl,rfl,rfl⟩,⟨rfl,rfl,rfl⟩,trivial⟩ (fun ext=>TL.on rfl rfl rfl rfl <| TL.callV hF (round_true (r:=⟨1,[(0,1),(0,2),(0,3),(1,4)],[],[(0,0)],[]⟩) ((hl8.item _ (by simp)).up (by simp)) (y:=⟨⟨1,[(0,1),(0,2),(0,3),(1,4)],[],[(0,0)],[]⟩,some ⟨b165,0,none⟩,4,none,0,some ⟨b167,0,none⟩,1,none,0⟩) ⟨(row_own (b:=b165) (cs:=([(0,1),(0,2),(0,3),(1,4)]:List Key).flatMap kC) (e:=25) (by simp)),Row.none,(row_own (b:=b167) (cs:=([(0,0)]:List Key).flatMap kC) (e:=25) (by simp)),Row.none⟩ hx8 rfl (by decide)) rfl rfl TL.fin) ?_
   refine DH.pure (i:=24) [(157,_,some 11),(169,_,some 23)] rfl rfl rfl rfl ⟨⟨rfl,rfl,rfl⟩,⟨rfl,rfl,rfl⟩,trivial⟩ (fun _ ext=>TL.pickT hF rfl rfl rfl rfl TL.fin) ?_
   refine DH.pure (i:=25) [(170,_,some 24)] rfl rfl rfl rfl ⟨⟨rfl,rfl,rfl⟩,trivial⟩ (fun _ ext=>TL.move hF rfl rfl TL.fin) ?_
   refine DH.pure (i:=26) [(8,_,none),(171,_,some 25)] rfl rfl rfl rfl ⟨⟨rfl,by kernel_rfl⟩,⟨rfl,rfl,rfl⟩,trivial⟩ (fun _ ext=>TL.on rfl rfl rfl rfl <| TL.move hF rfl rfl TL.fin) ?_
   refine DH.pure (i:=27) [(172,_,some 26),(171,_,some 25)] rfl rfl rfl rfl ⟨⟨rfl,rfl,rfl⟩,⟨rfl,rfl,rfl⟩,trivial⟩ (fun _ ext=>TL.on rfl rfl rfl rfl <| TL.indexAddr hF rfl rfl (hl8.ad (i:=1) (show 1<2 by decide)) (by decide) (show (1:Int)<((2:Nat):Int) by decide) rfl TL.fin) ?_
   refine DH.pure (i:=28) [(173,_,some 27),(171,_,some 25)] rfl rfl rfl rfl ⟨⟨rfl,rfl,rfl⟩,⟨rfl,rfl,rfl⟩,trivial⟩ (fun _ ext=>TL.on rfl rfl rfl rfl <| TL.fieldAddr hF rfl rfl TL.fin) ?_
   refine DH.read (i:=29) [(174,_,some 28),(171,_,some 25)] rfl rfl rfl rfl ⟨⟨rfl,rfl,rfl⟩,⟨rfl,rfl,rfl⟩,trivial⟩ (fun ext=>TL.on rfl rfl rfl rfl <| TL.load hF rfl (show At _ _ _ _ (.int .i64 1) from (hl8.ro.atA (i:=1) (show 1<2 by decide) 0 _ (by rw [show ([x8,y8]:List RH)[1]=y8 from rfl]; unfold rhC; rw [hy8]; rfl))) rfl TL.fin) ?_
   refine DH.pure (i:=30) [(175,_,some 29),(171,_,some 25)] rfl rfl rfl rfl ⟨⟨rfl,rfl,rfl⟩,⟨rfl,rfl,rfl⟩,trivial⟩ (fun _ ext=>TL.on rfl rfl rfl rfl <| TL.bin hF rfl rfl rfl rfl TL.fin) ?_
   refine DH.pure (i:=31) [(171,_,some 25),(176,_,some 30)] rfl rfl rfl rfl ⟨⟨rfl,rfl,rfl⟩,⟨rfl,rfl,rfl⟩,trivial⟩ (fun _ ext=>TL.pickT hF rfl rfl rfl rfl TL.fin) ?_
   refine DH.pure (i:=32) [(177,_,some 31)] rfl rfl rfl rfl ⟨⟨rfl,rfl,rfl⟩,trivial⟩ (fun _ ext=>TL.move hF rfl rfl TL.fin) ?_
   refine DH.pure (i:=33) [(8,_,none),(178,_,some 32)] rfl rfl rfl rfl ⟨⟨rfl,by kernel_rfl⟩,⟨rfl,rfl,rfl⟩,trivial⟩ (fun _ ext=>TL.on rfl rfl rfl rfl <| TL.move hF rfl rfl TL.fin) ?_
   refine DH.pure (i:=34) [(179,_,some 33),(178,_,some 32)] rfl rfl rfl rfl ⟨⟨rfl,rfl,rfl⟩,⟨rfl,rfl,rfl⟩,trivial⟩ (fun _ ext=>TL.on rfl rfl rfl rfl <| TL.indexAddr hF rfl rfl (hl8.ad (i:=1) (show 1<2 by decide)) (by decide) (show (1:Int)<((2:Nat):Int) by decide) rfl TL.fin) ?_
   refine DH.pure (i:=35) [(180,_,some 34),(178,_,some 32)] rfl rfl rfl rfl ⟨⟨rfl,rfl,rfl⟩,⟨rfl,rfl,rfl⟩,trivial⟩ (fun _ ext=>TL.on rfl rfl rfl rfl <| TL.fieldAddr hF rfl rfl TL.fin) ?_
   refine DH.read (i:=36) [(181,_,some 35),(178,_,some 32)] rfl rfl rfl rfl ⟨⟨rfl,rfl,rfl⟩,⟨rfl,rfl,rfl⟩,trivial⟩ (fun ext=>TL.on rfl rfl rfl rfl <| TL.load hF rfl (show At _ _ _ _ (.slice y8.a1 0 y8.c1) from (hl8.ro.atA (i:=1) (show 1<2 by decide) 1 _ (by rw [show ([x8,y8]:List RH)[1]=y8 from rfl]; unfold rhC; rw [hy8]; rfl))) rfl TL.fin) ?_
   refine DH.pure (i:=37) [(182,_,some 36),(178,_,some 32)] rfl rfl rfl rfl ⟨⟨rfl,rfl,rfl⟩,⟨rfl,rfl,rfl⟩,trivial⟩ (fun _ ext=>TL.on rfl rfl rfl rfl <| TL.len hF rfl rfl TL.fin) ?_
   refine DH.pure (i:=38) [(8,_,none),(178,_,some 32)] rfl rfl rfl rfl ⟨⟨rfl,by kernel_rfl⟩,⟨rfl,rfl,rfl⟩,trivial⟩ (fun _ ext=>TL.on rfl rfl rfl rfl <| TL.move hF rfl rfl TL.fin) ?_
   refine DH.pure (i:=39) [(184,_,some 38),(178,_,some 32)] rfl rfl rfl rfl ⟨⟨rfl,rfl,rfl⟩,⟨rfl,rfl,rfl⟩,trivial⟩ (fun _ ext=>TL.on rfl rfl rfl rfl <| TL.indexAddr hF rfl rfl (hl8.ad (i:=1) (show 1<2 by decide)) (by decide) (show (1:Int)<((2:Nat):Int) by decide) rfl TL.fin) ?_
   refine DH.pure (i:=40) [(185,_,some 39),(178,_,some 32)] rfl rfl rfl rfl ⟨⟨rfl,rfl,rfl⟩,⟨rfl,rfl,rfl⟩,trivial⟩ (fun _ ext=>TL.on rfl rfl rfl rfl <| TL.fieldAddr hF rfl rfl TL.fin) ?_
   refine DH.read (i:=41) [(186,_,some 40),(178,_,some 32)] rfl rfl rfl rfl ⟨⟨rfl,rfl,rfl⟩,⟨rfl,rfl,rfl⟩,trivial⟩ (fun ext=>TL.on rfl rfl rfl rfl <| TL.load hF rfl (show At _ _ _ _ (.slice y8.a2 0 y8.c2) from (hl8.ro.atA (i:=1) (show 1<2 by decide) 2 _ (by rw [show ([x8,y8]:List RH)[1]=y8 from rfl]; unfold rhC; rw [hy8]; rfl))) rfl TL.fin) ?_
   refine DH.pure (i:=42) [(187,_,some 41),(178,_,some 32)] rfl rfl rfl rfl ⟨⟨rfl,rfl,rfl⟩,⟨rfl,rfl,rfl⟩,trivial⟩ (fun _ ext=>TL.on rfl rfl rfl rfl <| TL.len hF rfl rfl TL.fin) ?_
   refine DH.pure (i:=43) [(183,_,some 37),(188,_,some 42),(178,_,some 32)] rfl rfl rfl rfl ⟨⟨rfl,rfl,rfl⟩,⟨rfl,rfl,rfl⟩,⟨rfl,rfl,rfl⟩,trivial⟩ (fun _ ext=>TL.on rfl rfl rfl rfl <| TL.add hF rfl rfl (by decide) (by decide) rfl TL.fin) ?_
   refine DH.pure (i:=44) [(8,_,none),(178,_,some 32)] rfl rfl rfl rfl ⟨⟨rfl,by kernel_rfl⟩,⟨rfl,rfl,rfl⟩,trivial⟩ (fun _ ext=>TL.on rfl rfl rfl rfl <| TL.move hF rfl rfl TL.fin) ?_
   refine DH.pure (i:=45) [(190,_,some 44),(178,_,some 32)] rfl rfl rfl rfl ⟨⟨rfl,rfl,rfl⟩,⟨rfl,rfl,rfl⟩,trivial⟩ (fun _ ext=>TL.on rfl rfl rfl rfl <| TL.indexAddr hF rfl rfl (hl8.ad (i:=1) (show 1<2 by decide)) (by decide) (show (1:Int)<((2:Nat):Int) by decide) rfl TL.fin) ?_
   refine DH.pure (i:=46) [(191,_,some 45),(178,_,some 32)] rfl rfl rfl rfl ⟨⟨rfl,rfl,rfl⟩,⟨rfl,rfl,rfl⟩,trivial⟩ (fun _ ext=>TL.on rfl rfl rfl rfl <| TL.fieldAddr hF rfl rfl TL.fin) ?_
   refine DH.read (i:=47) [(192,_,some 46),(178,_,some 32)] rfl rfl rfl rfl ⟨⟨rfl,rfl,rfl⟩,⟨rfl,rfl,rfl⟩,trivial⟩ (fun ext=>TL.on rfl rfl rfl rfl <| TL.load hF rfl (show At _ _ _ _ (.slice y8.a4 0 y8.c4) from (hl8.ro.atA (i:=1) (show 1<2 by decide) 4 _ (by rw [show ([x8,y8]:List RH)[1]=y8 from rfl]; unfold rhC; rw [hy8]; rfl))) rfl TL.fin) ?_
   refine DH.pure (i:=48) [(193,_,some 47),(178,_,some 32)] rfl rfl rfl rfl ⟨⟨rfl,rfl,rfl⟩,⟨rfl,rfl,rfl⟩,trivial⟩ (fun _ ext=>TL.on rfl rfl rfl rfl <| TL.len hF rfl rfl TL.fin) ?_
   refine DH.pure (i:=49) [(189,_,some 43),(194,_,some 48),(178,_,some 32)] rfl rfl rfl rfl ⟨⟨rfl,rfl,rfl⟩,⟨rfl,rfl,rfl⟩,⟨rfl,rfl,rfl⟩,trivial⟩ (fun _ ext=>TL.on rfl rfl rfl rfl <| TL.add hF rfl rfl (by decide) (by decide) rfl TL.fin) ?_
   refine DH.pure (i:=50) [(195,_,some 49),(178,_,some 32)] rfl rfl rfl rfl ⟨⟨rfl,rfl,rfl⟩,⟨rfl,rfl,rfl⟩,trivial⟩ (fun _ ext=>TL.on rfl rfl rfl rfl <| TL.bin hF rfl rfl rfl rfl TL.fin) ?_
   refine DH.pure (i:=51) [(178,_,some 32),(196,_,some 50)] rfl rfl rfl rfl ⟨⟨rfl,rfl,rfl⟩,⟨rfl,rfl,rfl⟩,trivial⟩ (fun _ ext=>TL.pickT hF rfl rfl rfl rfl TL.fin) ?_
   refine DH.pure (i:=52) [(197,_,some 51)] rfl rfl rfl rfl ⟨⟨rfl,rfl,rfl⟩,trivial⟩ (fun _ ext=>TL.move hF rfl rfl TL.fin) ?_
   refine DH.pure (i:=53) [(10,_,none),(198,_,some 52)] rfl rfl rfl rfl ⟨⟨rfl,by kernel_rfl⟩,⟨rfl,rfl,rfl⟩,trivial⟩ (fun _ ext=>TL.on rfl rfl rfl rfl <| TL.move hF rfl rfl TL.fin) ?_
   refine DH.pure (i:=54) [(199,_,some 53),(198,_,some 52)] rfl rfl rfl rfl ⟨⟨rfl,rfl,rfl⟩,⟨rfl,rfl,rfl⟩,trivial⟩ (fun _ ext=>TL.on rfl rfl rfl rfl <| TL.indexAddr hF rfl rfl (hl10.ad (i:=0) (show 0<1 by decide)) (by decide) (show (0:Int)<((1:Nat):Int) by decide) rfl TL.fin) ?_
   refine DH.read (i:=55) [(200,_,some 54),(198,_,some 52)] rfl rfl rfl rfl ⟨⟨rfl,rfl,rfl⟩,⟨rfl,rfl,rfl⟩,trivial⟩ (fun ext=>TL.on rfl rfl rfl rfl <| TL.loadA hF (rhC x10) rfl rfl (hl10.ro.atA (i:=0) (show 0<1 by decide)) rfl TL.fin) ?_
   refine DH.pure (i:=56) [(198,_,some 52)] rfl rfl rfl rfl ⟨⟨rfl,rfl,rfl⟩,trivial⟩ (fun _ ext=>TL.on rfl rfl rfl rfl <| TL.callV hF (at_fn 0 1) rfl rfl TL.fin) ?_
   refine DH.pure (i:=57) [(198,_,some 52)] rfl rfl rfl rfl ⟨⟨rfl,rfl,rfl⟩,trivial⟩ (fun _ ext=>TL.on rfl rfl rfl rfl <| TL.callV hF (at_fn 0 2) rfl rfl TL.fin) ?_
   refine DH.pure (i:=59) [(198,_,some 52)] rfl rfl rfl rfl ⟨⟨rfl,rfl,rfl⟩,trivial⟩ (fun _ ext=>TL.on rfl rfl rfl rfl <| TL.callV hF (at_fn 0 0) rfl rfl TL.fin) ?_
   refine DH.pure (i:=60) [(198,_,some 52)] rfl rfl rfl rfl ⟨⟨rfl,rfl,rfl⟩,trivial⟩ (fun _ ext=>TL.on rfl rfl rfl rfl <| TL.callV hF (at_fn 0 3) rfl rfl TL.fin) ?_
   refine DH.pure (i:=61) [(198,_,some 52)] rfl rfl rfl rfl ⟨⟨rfl,rfl,rfl⟩,trivial⟩ (fun _ ext=>TL.on rfl rfl rfl rfl <| TL.callV hF (at_fn 1 4) rfl rfl TL.fin) ?_
   refine DH.k2 (by kernel_rfl) (by kernel_rfl) (by kernel_rfl) (by kernel_rfl) (HBK.mk (h:=58) [55] [(202,_,some 56),(203,_,some 57),(198,_,some 52)] rfl rfl rfl ⟨⟨rfl,rfl,rfl⟩,⟨rfl,rfl,rfl⟩,⟨rfl,rfl,rfl⟩,trivial⟩ (by kernel_rfl) (fun ext=>?_)) (HBK.mk (h:=62) [55] [(205,_,some 59),(206,_,some 60),(207,_,some 61),(198,_,some 52)] rfl rfl rfl ⟨⟨rfl,rfl,rfl⟩,⟨rfl,rfl,rfl⟩,⟨rfl,rfl,rfl⟩,⟨rfl,rfl,rfl⟩,trivial⟩ (by kernel_rfl) (fun ext=>?_))
   ·refine TL.on rfl rfl rfl rfl ?_
    refine TL.buildSlice hF rfl (cs:=(([(0,1),(0,2)]:List Key).flatMap kC).toArray) (e:=25) (fun w=>by kernel_rfl) rfl (fun b204=>?_)
    refine TL.finK ⟨⟨_,rfl,_,_,[(200,_,some 54),(198,_,some 52)],rfl,rfl,⟨⟨rfl,rfl,rfl⟩,⟨rfl,rfl,rfl⟩,trivial⟩,fun ext=>TL.on rfl rfl rfl rfl <| TL.loadA hF (rhC x10) rfl rfl (hl10.ro.atA (i:=0) (show 0<1 by decide)) rfl TL.fin⟩,trivial⟩ ?_
    refine DH.k1 (by kernel_rfl) (by kernel_rfl) (by kernel_rfl) (by kernel_rfl) (HBK.mk (h:=62) [55] [(205,_,some 59),(206,_,some 60),(207,_,some 61),(198,_,some 52)] rfl rfl rfl ⟨⟨rfl,rfl,rfl⟩,⟨rfl,rfl,rfl⟩,⟨rfl,rfl,rfl⟩,⟨rfl,rfl,rfl⟩,trivial⟩ (by kernel_rfl) (fun ext=>?_))
    refine TL.on rfl rfl rfl rfl ?_
    refine TL.buildSlice hF rfl (cs:=(([(0,0),(0,3),(1,4)]:List Key).flatMap kC).toArray) (e:=25) (fun w=>by kernel_rfl) rfl (fun b208=>?_)
    refine TL.finK ⟨⟨_,rfl,_,_,[(200,_,some 54),(198,_,some 52)],rfl,rfl,⟨⟨rfl,rfl,rfl⟩,⟨rfl,rfl,rfl⟩,trivial⟩,fun ext=>TL.on rfl rfl rfl rfl <| TL.loadA hF (rhC x10) rfl rfl (hl10.ro.atA (i:=0) (show 0<1 by decide)) rfl TL.fin⟩,trivial⟩ ?_
    refine DH.pure (i:=63) [(204,_,some 58),(208,_,some 62),(198,_,some 52)] rfl rfl rfl rfl ⟨⟨rfl,rfl,rfl⟩,⟨rfl,rfl,rfl⟩,⟨rfl,rfl,rfl⟩,trivial⟩ (fun _ ext=>TL.on rfl rfl rfl rfl <| TL.build hF rfl (r:=.agg (rhC ⟨⟨1,[(0,1),(0,2)],[],[(0,0),(0,3),(1,4)],[]⟩,some ⟨b204,0,none⟩,2,none,0,some ⟨b208,0,none⟩,3,none,0⟩).toArray) (fun w=>by kernel_rfl) rfl TL.fin) ?_
    refine DH.done [(209,_),(208,_),(204,_),(207,_),(206,_),(205,_),(203,_),(202,_),(201,_),(200,_),(199,_),(198,_),(197,_),(196,_),(195,_),(194,_),(193,_),(192,_),(191,_),(190,_),(189,_),(188,_),(187,_),(186,_),(185,_),(184,_),(183,_),(182,_),(181,_),(180,_),(179,_),(178,_),(177,_),(176,_),(175,_),(174,_),(173,_),(172,_),(171,_),(170,_),(169,_),(168,_),(167,_),(165,_),(166,_),(164,_),(163,_),(162,_),(161,_),(160,_),(159,_),(158,_),(157,_),(156,_),(155,_),(151,_),(154,_),(153,_),(152,_),(150,_),(149,_),(148,_),(147,_),(146,_)] [_,_,_] (by kernel_rfl) (by kernel_rfl) (by kernel_rfl) (by kernel_rfl) rfl rfl ?_
    refine TL.on rfl rfl rfl rfl ?_
    refine TL.callV hF (round_true (r:=⟨1,[(0,1),(0,2)],[],[(0,0),(0,3),(1,4)],[]⟩) ((hl10.item _ (by simp)).up (by simp)) (y:=⟨⟨1,[(0,1),(0,2)],[],[(0,0),(0,3),(1,4)],[]⟩,some ⟨b204,0,none⟩,2,none,0,some ⟨b208,0,none⟩,3,none,0⟩) ⟨(row_own (b:=b204) (cs:=([(0,1),(0,2)]:List Key).flatMap kC) (e:=25) (by simp)),Row.none,(row_own (b:=b208) (cs:=([(0,0),(0,3),(1,4)]:List Key).flatMap kC) (e:=25) (by simp)),Row.none⟩ hx10 rfl (by decide)) rfl rfl ?_
    refine TL.pickT hF rfl rfl rfl rfl ?_
    refine TL.assign hF rfl rfl ?_
    refine TL.nil ?_
    refine TQ.then_n ?_
    refine T.ret ?_
    exact TQ.retsF [0] _ hb rfl rfl rfl (fun _=>rfl)
   ·refine TL.on rfl rfl rfl rfl ?_
    refine TL.buildSlice hF rfl (cs:=(([(0,0),(0,3),(1,4)]:List Key).flatMap kC).toArray) (e:=25) (fun w=>by kernel_rfl) rfl (fun b208=>?_)
    refine TL.finK ⟨⟨_,rfl,_,_,[(200,_,some 54),(198,_,some 52)],rfl,rfl,⟨⟨rfl,rfl,rfl⟩,⟨rfl,rfl,rfl⟩,trivial⟩,fun ext=>TL.on rfl rfl rfl rfl <| TL.loadA hF (rhC x10) rfl rfl (hl10.ro.atA (i:=0) (show 0<1 by decide)) rfl TL.fin⟩,trivial⟩ ?_
    refine DH.k1 (by kernel_rfl) (by kernel_rfl) (by kernel_rfl) (by kernel_rfl) (HBK.mk (h:=58) [55] [(202,_,some 56),(203,_,some 57),(198,_,some 52)] rfl rfl rfl ⟨⟨rfl,rfl,rfl⟩,⟨rfl,rfl,rfl⟩,⟨rfl,rfl,rfl⟩,trivial⟩ (by kernel_rfl) (fun ext=>?_))
    refine TL.on rfl rfl rfl rfl ?_
    refine TL.buildSlice hF rfl (cs:=(([(0,1),(0,2)]:List Key).flatMap kC).toArray) (e:=25) (fun w=>by kernel_rfl) rfl (fun b204=>?_)
    refine TL.finK ⟨⟨_,rfl,_,_,[(200,_,some 54),(198,_,some 52)],rfl,rfl,⟨⟨rfl,rfl,rfl⟩,⟨rfl,rfl,rfl⟩,trivial⟩,fun ext=>TL.on rfl rfl rfl rfl <| TL.loadA hF (rhC x10) rfl rfl (hl10.ro.atA (i:=0) (show 0<1 by decide)) rfl TL.fin⟩,trivial⟩ ?_
    refine DH.pure (i:=63) [(204,_,some 58),(208,_,some 62),(198,_,some 52)] rfl rfl rfl rfl ⟨⟨rfl,rfl,rfl⟩,⟨rfl,rfl,rfl⟩,⟨rfl,rfl,rfl⟩,trivial⟩ (fun _ ext=>TL.on rfl rfl rfl rfl <| TL.build hF rfl (r:=.agg (rhC ⟨⟨1,[(0,1),(0,2)],[],[(0,0),(0,3),(1,4)],[]⟩,some ⟨b204,0,none⟩,2,none,0,some ⟨b208,0,none⟩,3,none,0⟩).toArray) (fun w=>by kernel_rfl) rfl TL.fin) ?_
    refine DH.done [(209,_),(204,_),(208,_),(207,_),(206,_),(205,_),(203,_),(202,_),(201,_),(200,_),(199,_),(198,_),(197,_),(196,_),(195,_),(194,_),(193,_),(192,_),(191,_),(190,_),(189,_),(188,_),(187,_),(186,_),(185,_),(184,_),(183,_),(182,_),(181,_),(180,_),(179,_),(178,_),(177,_),(176,_),(175,_),(174,_),(173,_),(172,_),(171,_),(170,_),(169,_),(168,_),(167,_),(165,_),(166,_),(164,_),(163,_),(162,_),(161,_),(160,_),(159,_),(158,_),(157,_),(156,_),(155,_),(151,_),(154,_),(153,_),(152,_),(150,_),(149,_),(148,_),(147,_),(146,_)] [_,_,_] (by kernel_rfl) (by kernel_rfl) (by kernel_rfl) (by kernel_rfl) rfl rfl ?_
    refine TL.on rfl rfl rfl rfl ?_
    refine TL.callV hF (round_true (r:=⟨1,[(0,1),(0,2)],[],[(0,0),(0,3),(1,4)],[]⟩) ((hl10.item _ (by simp)).up (by simp)) (y:=⟨⟨1,[(0,1),(0,2)],[],[(0,0),(0,3),(1,4)],[]⟩,some ⟨b204,0,none⟩,2,none,0,some ⟨b208,0,none⟩,3,none,0⟩) ⟨(row_own (b:=b204) (cs:=([(0,1),(0,2)]:List Key).flatMap kC) (e:=25) (by simp)),Row.none,(row_own (b:=b208) (cs:=([(0,0),(0,3),(1,4)]:List Key).flatMap kC) (e:=25) (by simp)),Row.none⟩ hx10 rfl (by decide)) rfl rfl ?_
    refine TL.pickT hF rfl rfl rfl rfl ?_
    refine TL.assign hF rfl rfl ?_
    refine TL.nil ?_
    refine TQ.then_n ?_
    refine T.ret ?_
    exact TQ.retsF [0] _ hb rfl rfl rfl (fun _=>rfl)
  ·refine TL.on rfl rfl rfl rfl ?_
   refine TL.buildSlice hF rfl (cs:=(([(0,0)]:List Key).flatMap kC).toArray) (e:=25) (fun w=>by kernel_rfl) rfl (fun b167=>?_)
   refine TL.finK ⟨⟨_,rfl,_,_,[(159,_,some 13),(157,_,some 11)],rfl,rfl,⟨⟨rfl,rfl,rfl⟩,⟨rfl,rfl,rfl⟩,trivial⟩,fun ext=>TL.on rfl rfl rfl rfl <| TL.loadA hF (rhC x8) rfl rfl (hl8.ro.atA (i:=0) (show 0<2 by decide)) rfl TL.fin⟩,trivial⟩ ?_
   refine DH.k1 (by kernel_rfl) (by kernel_rfl) (by kernel_rfl) (by kernel_rfl) (HBK.mk (h:=19) [14] [(161,_,some 15),(162,_,some 16),(163,_,some 17),(164,_,some 18),(157,_,some 11)] rfl rfl rfl ⟨⟨rfl,rfl,rfl⟩,⟨rfl,rfl,rfl⟩,⟨rfl,rfl,rfl⟩,⟨rfl,rfl,rfl⟩,⟨rfl,rfl,rfl⟩,trivial⟩ (by kernel_rfl) (fun ext=>?_))
   refine TL.on rfl rfl rfl rfl ?_
   refine TL.buildSlice hF rfl (cs:=(([(0,1),(0,2),(0,3),(1,4)]:List Key).flatMap kC).toArray) (e:=25) (fun w=>by kernel_rfl) rfl (fun b165=>?_)
   refine TL.finK ⟨⟨_,rfl,_,_,[(159,_,some 13),(157,_,some 11)],rfl,rfl,⟨⟨rfl,rfl,rfl⟩,⟨rfl,rfl,rfl⟩,trivial⟩,fun ext=>TL.on rfl rfl rfl rfl <| TL.loadA hF (rhC x8) rfl rfl (hl8.ro.atA (i:=0) (show 0<2 by decide)) rfl TL.fin⟩,trivial⟩ ?_
   refine DH.pure (i:=22) [(165,_,some 19),(167,_,some 21),(157,_,some 11)] rfl rfl rfl rfl ⟨⟨rfl,rfl,rfl⟩,⟨rfl,rfl,rfl⟩,⟨rfl,rfl,rfl⟩,trivial⟩ (fun _ ext=>TL.on rfl rfl rfl rfl <| TL.build hF rfl (r:=.agg (rhC ⟨⟨1,[(0,1),(0,2),(0,3),(1,4)],[],[(0,0)],[]⟩,some ⟨b165,0,none⟩,4,none,0,some ⟨b167,0,none⟩,1,none,0⟩).toArray) (fun w=>by kernel_rfl) rfl TL.fin) ?_
   refine DH.read (i:=23) [(160,_,some 14),(168,_,some 22),(157,_,some 11)] rfl rfl rfl rfl ⟨⟨rfl,rfl,rfl⟩,⟨rfl,rfl,rfl⟩,⟨rfl,rfl,rfl⟩,trivial⟩ (fun ext=>TL.on rfl rfl rfl rfl <| TL.callV hF (round_true (r:=⟨1,[(0,1),(0,2),(0,3),(1,4)],[],[(0,0)],[]⟩) ((hl8.item _ (by simp)).up (by simp)) (y:=⟨⟨1,[(0,1),(0,2),(0,3),(1,4)],[],[(0,0)],[]⟩,some ⟨b165,0,none⟩,4,none,0,some ⟨b167,0,none⟩,1,none,0⟩) ⟨(row_own (b:=b165) (cs:=([(0,1),(0,2),(0,3),(1,4)]:List Key).flatMap kC) (e:=25) (by simp)),Row.none,(row_own (b:=b167) (cs:=([(0,0)]:List Key).flatMap kC) (e:=25) (by simp)),Row.none⟩ hx8 rfl (by decide)) rfl rfl TL.fin) ?_
   refine DH.pure (i:=24) [(157,_,some 11),(169,_,some 23)] rfl rfl rfl rfl ⟨⟨rfl,rfl,rfl⟩,⟨rfl,rfl,rfl⟩,trivial⟩ (fun _ ext=>TL.pickT hF rfl rfl rfl rfl TL.fin) ?_
   refine DH.pure (i:=25) [(170,_,some 24)] rfl rfl rfl rfl ⟨⟨rfl,rfl,rfl⟩,trivial⟩ (fun _ ext=>TL.move hF rfl rfl TL.fin) ?_
   refine DH.pure (i:=26) [(8,_,none),(171,_,some 25)] rfl rfl rfl rfl ⟨⟨rfl,by kernel_rfl⟩,⟨rfl,rfl,rfl⟩,trivial⟩ (fun _ ext=>TL.on rfl rfl rfl rfl <| TL.move hF rfl rfl TL.fin) ?_
   refine DH.pure (i:=27) [(172,_,some 26),(171,_,some 25)] rfl rfl rfl rfl ⟨⟨rfl,rfl,rfl⟩,⟨rfl,rfl,rfl⟩,trivial⟩ (fun _ ext=>TL.on rfl rfl rfl rfl <| TL.indexAddr hF rfl rfl (hl8.ad (i:=1) (show 1<2 by decide)) (by decide) (show (1:Int)<((2:Nat):Int) by decide) rfl TL.fin) ?_
   refine DH.pure (i:=28) [(173,_,some 27),(171,_,some 25)] rfl rfl rfl rfl ⟨⟨rfl,rfl,rfl⟩,⟨rfl,rfl,rfl⟩,trivial⟩ (fun _ ext=>TL.on rfl rfl rfl rfl <| TL.fieldAddr hF rfl rfl TL.fin) ?_
   refine DH.read (i:=29) [(174,_,some 28),(171,_,some 25)] rfl rfl rfl rfl ⟨⟨rfl,rfl,rfl⟩,⟨rfl,rfl,rfl⟩,trivial⟩ (fun ext=>TL.on rfl rfl rfl rfl <| TL.load hF rfl (show At _ _ _ _ (.int .i64 1) from (hl8.ro.atA (i:=1) (show 1<2 by decide) 0 _ (by rw [show ([x8,y8]:List RH)[1]=y8 from rfl]; unfold rhC; rw [hy8]; rfl))) rfl TL.fin) ?_
   refine DH.pure (i:=30) [(175,_,some 29),(171,_,some 25)] rfl rfl rfl rfl ⟨⟨rfl,rfl,rfl⟩,⟨rfl,rfl,rfl⟩,trivial⟩ (fun _ ext=>TL.on rfl rfl rfl rfl <| TL.bin hF rfl rfl rfl rfl TL.fin) ?_
   refine DH.pure (i:=31) [(171,_,some 25),(176,_,some 30)] rfl rfl rfl rfl ⟨⟨rfl,rfl,rfl⟩,⟨rfl,rfl,rfl⟩,trivial⟩ (fun _ ext=>TL.pickT hF rfl rfl rfl rfl TL.fin) ?_
   refine DH.pure (i:=32) [(177,_,some 31)] rfl rfl rfl rfl ⟨⟨rfl,rfl,rfl⟩,trivial⟩ (fun _ ext=>TL.move hF rfl rfl TL.fin) ?_
   refine DH.pure (i:=33) [(8,_,none),(178,_,some 32)] rfl rfl rfl rfl ⟨⟨rfl,by kernel_rfl⟩,⟨rfl,rfl,rfl⟩,trivial⟩ (fun _ ext=>TL.on rfl rfl rfl rfl <| TL.move hF rfl rfl TL.fin) ?_
   refine DH.pure (i:=34) [(179,_,some 33),(178,_,some 32)] rfl rfl rfl rfl ⟨⟨rfl,rfl,rfl⟩,⟨rfl,rfl,rfl⟩,trivial⟩ (fun _ ext=>TL.on rfl rfl rfl rfl <| TL.indexAddr hF rfl rfl (hl8.ad (i:=1) (show 1<2 by decide)) (by decide) (show (1:Int)<((2:Nat):Int) by decide) rfl TL.fin) ?_
   refine DH.pure (i:=35) [(180,_,some 34),(178,_,some 32)] rfl rfl rfl rfl ⟨⟨rfl,rfl,rfl⟩,⟨rfl,rfl,rfl⟩,trivial⟩ (fun _ ext=>TL.on rfl rfl rfl rfl <| TL.fieldAddr hF rfl rfl TL.fin) ?_
   refine DH.read (i:=36) [(181,_,some 35),(178,_,some 32)] rfl rfl rfl rfl ⟨⟨rfl,rfl,rfl⟩,⟨rfl,rfl,rfl⟩,trivial⟩ (fun ext=>TL.on rfl rfl rfl rfl <| TL.load hF rfl (show At _ _ _ _ (.slice y8.a1 0 y8.c1) from (hl8.ro.atA (i:=1) (show 1<2 by decide) 1 _ (by rw [show ([x8,y8]:List RH)[1]=y8 from rfl]; unfold rhC; rw [hy8]; rfl))) rfl TL.fin) ?_
   refine DH.pure (i:=37) [(182,_,some 36),(178,_,some 32)] rfl rfl rfl rfl ⟨⟨rfl,rfl,rfl⟩,⟨rfl,rfl,rfl⟩,trivial⟩ (fun _ ext=>TL.on rfl rfl rfl rfl <| TL.len hF rfl rfl TL.fin) ?_
   refine DH.pure (i:=38) [(8,_,none),(178,_,some 32)] rfl rfl rfl rfl ⟨⟨rfl,by kernel_rfl⟩,⟨rfl,rfl,rfl⟩,trivial⟩ (fun _ ext=>TL.on rfl rfl rfl rfl <| TL.move hF rfl rfl TL.fin) ?_
   refine DH.pure (i:=39) [(184,_,some 38),(178,_,some 32)] rfl rfl rfl rfl ⟨⟨rfl,rfl,rfl⟩,⟨rfl,rfl,rfl⟩,trivial⟩ (fun _ ext=>TL.on rfl rfl rfl rfl <| TL.indexAddr hF rfl rfl (hl8.ad (i:=1) (show 1<2 by decide)) (by decide) (show (1:Int)<((2:Nat):Int) by decide) rfl TL.fin) ?_
   refine DH.pure (i:=40) [(185,_,some 39),(178,_,some 32)] rfl rfl rfl rfl ⟨⟨rfl,rfl,rfl⟩,⟨rfl,rfl,rfl⟩,trivial⟩ (fun _ ext=>TL.on rfl rfl rfl rfl <| TL.fieldAddr hF rfl rfl TL.fin) ?_
   refine DH.read (i:=41) [(186,_,some 40),(178,_,some 32)] rfl rfl rfl rfl ⟨⟨rfl,rfl,rfl⟩,⟨rfl,rfl,rfl⟩,trivial⟩ (fun ext=>TL.on rfl rfl rfl rfl <| TL.load hF rfl (show At _ _ _ _ (.slice y8.a2 0 y8.c2) from (hl8.ro.atA (i:=1) (show 1<2 by decide) 2 _ (by rw [show ([x8,y8]:List RH)[1]=y8 from rfl]; unfold rhC; rw [hy8]; rfl))) rfl TL.fin) ?_
   refine DH.pure (i:=42) [(187,_,some 41),(178,_,some 32)] rfl rfl rfl rfl ⟨⟨rfl,rfl,rfl⟩,⟨rfl,rfl,rfl⟩,trivial⟩ (fun _ ext=>TL.on rfl rfl rfl rfl <| TL.len hF rfl rfl TL.fin) ?_
   refine DH.pure (i:=43) [(183,_,some 37),(188,_,some 42),(178,_,some 32)] rfl rfl rfl rfl ⟨⟨rfl,rfl,rfl⟩,⟨rfl,rfl,rfl⟩,⟨rfl,rfl,rfl⟩,trivial⟩ (fun _ ext=>TL.on rfl rfl rfl rfl <| TL.add hF rfl rfl (by decide) (by decide) rfl TL.fin) ?_
   refine DH.pure (i:=44) [(8,_,none),(178,_,some 32)] rfl rfl rfl rfl ⟨⟨rfl,by kernel_rfl⟩,⟨rfl,rfl,rfl⟩,trivial⟩ (fun _ ext=>TL.on rfl rfl rfl rfl <| TL.move hF rfl rfl TL.fin) ?_
   refine DH.pure (i:=45) [(190,_,some 44),(178,_,some 32)] rfl rfl rfl rfl ⟨⟨rfl,rfl,rfl⟩,⟨rfl,rfl,rfl⟩,trivial⟩ (fun _ ext=>TL.on rfl rfl rfl rfl <| TL.indexAddr hF rfl rfl (hl8.ad (i:=1) (show 1<2 by decide)) (by decide) (show (1:Int)<((2:Nat):Int) by decide) rfl TL.fin) ?_
   refine DH.pure (i:=46) [(191,_,some 45),(178,_,some 32)] rfl rfl rfl rfl ⟨⟨rfl,rfl,rfl⟩,⟨rfl,rfl,rfl⟩,trivial⟩ (fun _ ext=>TL.on rfl rfl rfl rfl <| TL.fieldAddr hF rfl rfl TL.fin) ?_
   refine DH.read (i:=47) [(192,_,some 46),(178,_,some 32)] rfl rfl rfl rfl ⟨⟨rfl,rfl,rfl⟩,⟨rfl,rfl,rfl⟩,trivial⟩ (fun ext=>TL.on rfl rfl rfl rfl <| TL.load hF rfl (show At _ _ _ _ (.slice y8.a4 0 y8.c4) from (hl8.ro.atA (i:=1) (show 1<2 by decide) 4 _ (by rw [show ([x8,y8]:List RH)[1]=y8 from rfl]; unfold rhC; rw [hy8]; rfl))) rfl TL.fin) ?_
   refine DH.pure (i:=48) [(193,_,some 47),(178,_,some 32)] rfl rfl rfl rfl ⟨⟨rfl,rfl,rfl⟩,⟨rfl,rfl,rfl⟩,trivial⟩ (fun _ ext=>TL.on rfl rfl rfl rfl <| TL.len hF rfl rfl TL.fin) ?_
   refine DH.pure (i:=49) [(189,_,some 43),(194,_,some 48),(178,_,some 32)] rfl rfl rfl rfl ⟨⟨rfl,rfl,rfl⟩,⟨rfl,rfl,rfl⟩,⟨rfl,rfl,rfl⟩,trivial⟩ (fun _ ext=>TL.on rfl rfl rfl rfl <| TL.add hF rfl rfl (by decide) (by decide) rfl TL.fin) ?_
   refine DH.pure (i:=50) [(195,_,some 49),(178,_,some 32)] rfl rfl rfl rfl ⟨⟨rfl,rfl,rfl⟩,⟨rfl,rfl,rfl⟩,trivial⟩ (fun _ ext=>TL.on rfl rfl rfl rfl <| TL.bin hF rfl rfl rfl rfl TL.fin) ?_
   refine DH.pure (i:=51) [(178,_,some 32),(196,_,some 50)] rfl rfl rfl rfl ⟨⟨rfl,rfl,rfl⟩,⟨rfl,rfl,rfl⟩,trivial⟩ (fun _ ext=>TL.pickT hF rfl rfl rfl rfl TL.fin) ?_
   refine DH.pure (i:=52) [(197,_,some 51)] rfl rfl rfl rfl ⟨⟨rfl,rfl,rfl⟩,trivial⟩ (fun _ ext=>TL.move hF rfl rfl TL.fin) ?_
   refine DH.pure (i:=53) [(10,_,none),(198,_,some 52)] rfl rfl rfl rfl ⟨⟨rfl,by kernel_rfl⟩,⟨rfl,rfl,rfl⟩,trivial⟩ (fun _ ext=>TL.on rfl rfl rfl rfl <| TL.move hF rfl rfl TL.fin) ?_
   refine DH.pure (i:=54) [(199,_,some 53),(198,_,some 52)] rfl rfl rfl rfl ⟨⟨rfl,rfl,rfl⟩,⟨rfl,rfl,rfl⟩,trivial⟩ (fun _ ext=>TL.on rfl rfl rfl rfl <| TL.indexAddr hF rfl rfl (hl10.ad (i:=0) (show 0<1 by decide)) (by decide) (show (0:Int)<((1:Nat):Int) by decide) rfl TL.fin) ?_
   refine DH.read (i:=55) [(200,_,some 54),(198,_,some 52)] rfl rfl rfl rfl ⟨⟨rfl,rfl,rfl⟩,⟨rfl,rfl,rfl⟩,trivial⟩ (fun ext=>TL.on rfl rfl rfl rfl <| TL.loadA hF (rhC x10) rfl rfl (hl10.ro.atA (i:=0) (show 0<1 by decide)) rfl TL.fin) ?_
   refine DH.pure (i:=56) [(198,_,some 52)] rfl rfl rfl rfl ⟨⟨rfl,rfl,rfl⟩,trivial⟩ (fun _ ext=>TL.on rfl rfl rfl rfl <| TL.callV hF (at_fn 0 1) rfl rfl TL.fin) ?_
   refine DH.pure (i:=57) [(198,_,some 52)] rfl rfl rfl rfl ⟨⟨rfl,rfl,rfl⟩,trivial⟩ (fun _ ext=>TL.on rfl rfl rfl rfl <| TL.callV hF (at_fn 0 2) rfl rfl TL.fin) ?_
   refine DH.pure (i:=59) [(198,_,some 52)] rfl rfl rfl rfl ⟨⟨rfl,rfl,rfl⟩,trivial⟩ (fun _ ext=>TL.on rfl rfl rfl rfl <| TL.callV hF (at_fn 0 0) rfl rfl TL.fin) ?_
   refine DH.pure (i:=60) [(198,_,some 52)] rfl rfl rfl rfl ⟨⟨rfl,rfl,rfl⟩,trivial⟩ (fun _ ext=>TL.on rfl rfl rfl rfl <| TL.callV hF (at_fn 0 3) rfl rfl TL.fin) ?_
   refine DH.pure (i:=61) [(198,_,some 52)] rfl rfl rfl rfl ⟨⟨rfl,rfl,rfl⟩,trivial⟩ (fun _ ext=>TL.on rfl rfl rfl rfl <| TL.callV hF (at_fn 1 4) rfl rfl TL.fin) ?_
   refine DH.k2 (by kernel_rfl) (by kernel_rfl) (by kernel_rfl) (by kernel_rfl) (HBK.mk (h:=58) [55] [(202,_,some 56),(203,_,some 57),(198,_,some 52)] rfl rfl rfl ⟨⟨rfl,rfl,rfl⟩,⟨rfl,rfl,rfl⟩,⟨rfl,rfl,rfl⟩,trivial⟩ (by kernel_rfl) (fun ext=>?_)) (HBK.mk (h:=62) [55] [(205,_,some 59),(206,_,some 60),(207,_,some 61),(198,_,some 52)] rfl rfl rfl ⟨⟨rfl,rfl,rfl⟩,⟨rfl,rfl,rfl⟩,⟨rfl,rfl,rfl⟩,⟨rfl,rfl,rfl⟩,trivial⟩ (by kernel_rfl) (fun ext=>?_))
   ·refine TL.on rfl rfl rfl rfl ?_
    refine TL.buildSlice hF rfl (cs:=(([(0,1),(0,2)]:List Key).flatMap kC).toArray) (e:=25) (fun w=>by kernel_rfl) rfl (fun b204=>?_)
    refine TL.finK ⟨⟨_,rfl,_,_,[(200,_,some 54),(198,_,some 52)],rfl,rfl,⟨⟨rfl,rfl,rfl⟩,⟨rfl,rfl,rfl⟩,trivial⟩,fun ext=>TL.on rfl rfl rfl rfl <| TL.loadA hF (rhC x10) rfl rfl (hl10.ro.atA (i:=0) (show 0<1 by decide)) rfl TL.fin⟩,trivial⟩ ?_
    refine DH.k1 (by kernel_rfl) (by kernel_rfl) (by kernel_rfl) (by kernel_rfl) (HBK.mk (h:=62) [55] [(205,_,some 59),(206,_,some 60),(207,_,some 61),(198,_,some 52)] rfl rfl rfl ⟨⟨rfl,rfl,rfl⟩,⟨rfl,rfl,rfl⟩,⟨rfl,rfl,rfl⟩,⟨rfl,rfl,rfl⟩,trivial⟩ (by kernel_rfl) (fun ext=>?_))
    refine TL.on rfl rfl rfl rfl ?_
    refine TL.buildSlice hF rfl (cs:=(([(0,0),(0,3),(1,4)]:List Key).flatMap kC).toArray) (e:=25) (fun w=>by kernel_rfl) rfl (fun b208=>?_)
    refine TL.finK ⟨⟨_,rfl,_,_,[(200,_,some 54),(198,_,some 52)],rfl,rfl,⟨⟨rfl,rfl,rfl⟩,⟨rfl,rfl,rfl⟩,trivial⟩,fun ext=>TL.on rfl rfl rfl rfl <| TL.loadA hF (rhC x10) rfl rfl (hl10.ro.atA (i:=0) (show 0<1 by decide)) rfl TL.fin⟩,trivial⟩ ?_
    refine DH.pure (i:=63) [(204,_,some 58),(208,_,some 62),(198,_,some 52)] rfl rfl rfl rfl ⟨⟨rfl,rfl,rfl⟩,⟨rfl,rfl,rfl⟩,⟨rfl,rfl,rfl⟩,trivial⟩ (fun _ ext=>TL.on rfl rfl rfl rfl <| TL.build hF rfl (r:=.agg (rhC ⟨⟨1,[(0,1),(0,2)],[],[(0,0),(0,3),(1,4)],[]⟩,some ⟨b204,0,none⟩,2,none,0,some ⟨b208,0,none⟩,3,none,0⟩).toArray) (fun w=>by kernel_rfl) rfl TL.fin) ?_
    refine DH.done [(209,_),(208,_),(204,_),(207,_),(206,_),(205,_),(203,_),(202,_),(201,_),(200,_),(199,_),(198,_),(197,_),(196,_),(195,_),(194,_),(193,_),(192,_),(191,_),(190,_),(189,_),(188,_),(187,_),(186,_),(185,_),(184,_),(183,_),(182,_),(181,_),(180,_),(179,_),(178,_),(177,_),(176,_),(175,_),(174,_),(173,_),(172,_),(171,_),(170,_),(169,_),(168,_),(165,_),(167,_),(166,_),(164,_),(163,_),(162,_),(161,_),(160,_),(159,_),(158,_),(157,_),(156,_),(155,_),(151,_),(154,_),(153,_),(152,_),(150,_),(149,_),(148,_),(147,_),(146,_)] [_,_,_] (by kernel_rfl) (by kernel_rfl) (by kernel_rfl) (by kernel_rfl) rfl rfl ?_
    refine TL.on rfl rfl rfl rfl ?_
    refine TL.callV hF (round_true (r:=⟨1,[(0,1),(0,2)],[],[(0,0),(0,3),(1,4)],[]⟩) ((hl10.item _ (by simp)).up (by simp)) (y:=⟨⟨1,[(0,1),(0,2)],[],[(0,0),(0,3),(1,4)],[]⟩,some ⟨b204,0,none⟩,2,none,0,some ⟨b208,0,none⟩,3,none,0⟩) ⟨(row_own (b:=b204) (cs:=([(0,1),(0,2)]:List Key).flatMap kC) (e:=25) (by simp)),Row.none,(row_own (b:=b208) (cs:=([(0,0),(0,3),(1,4)]:List Key).flatMap kC) (e:=25) (by simp)),Row.none⟩ hx10 rfl (by decide)) rfl rfl ?_
    refine TL.pickT hF rfl rfl rfl rfl ?_
    refine TL.assign hF rfl rfl ?_
    refine TL.nil ?_
    refine TQ.then_n ?_
    refine T.ret ?_
    exact TQ.retsF [0] _ hb rfl rfl rfl (fun _=>rfl)
   ·refine TL.on rfl rfl rfl rfl ?_
    refine TL.buildSlice hF rfl (cs:=(([(0,0),(0,3),(1,4)]:List Key).flatMap kC).toArray) (e:=25) (fun w=>by kernel_rfl) rfl (fun b208=>?_)
    refine TL.finK ⟨⟨_,rfl,_,_,[(200,_,some 54),(198,_,some 52)],rfl,rfl,⟨⟨rfl,rfl,rfl⟩,⟨rfl,rfl,rfl⟩,trivial⟩,fun ext=>TL.on rfl rfl rfl rfl <| TL.loadA hF (rhC x10) rfl rfl (hl10.ro.atA (i:=0) (show 0<1 by decide)) rfl TL.fin⟩,trivial⟩ ?_
    refine DH.k1 (by kernel_rfl) (by kernel_rfl) (by kernel_rfl) (by kernel_rfl) (HBK.mk (h:=58) [55] [(202,_,some 56),(203,_,some 57),(198,_,some 52)] rfl rfl rfl ⟨⟨rfl,rfl,rfl⟩,⟨rfl,rfl,rfl⟩,⟨rfl,rfl,rfl⟩,trivial⟩ (by kernel_rfl) (fun ext=>?_))
    refine TL.on rfl rfl rfl rfl ?_
    refine TL.buildSlice hF rfl (cs:=(([(0,1),(0,2)]:List Key).flatMap kC).toArray) (e:=25) (fun w=>by kernel_rfl) rfl (fun b204=>?_)
    refine TL.finK ⟨⟨_,rfl,_,_,[(200,_,some 54),(198,_,some 52)],rfl,rfl,⟨⟨rfl,rfl,rfl⟩,⟨rfl,rfl,rfl⟩,trivial⟩,fun ext=>TL.on rfl rfl rfl rfl <| TL.loadA hF (rhC x10) rfl rfl (hl10.ro.atA (i:=0) (show 0<1 by decide)) rfl TL.fin⟩,trivial⟩ ?_
    refine DH.pure (i:=63) [(204,_,some 58),(208,_,some 62),(198,_,some 52)] rfl rfl rfl rfl ⟨⟨rfl,rfl,rfl⟩,⟨rfl,rfl,rfl⟩,⟨rfl,rfl,rfl⟩,trivial⟩ (fun _ ext=>TL.on rfl rfl rfl rfl <| TL.build hF rfl (r:=.agg (rhC ⟨⟨1,[(0,1),(0,2)],[],[(0,0),(0,3),(1,4)],[]⟩,some ⟨b204,0,none⟩,2,none,0,some ⟨b208,0,none⟩,3,none,0⟩).toArray) (fun w=>by kernel_rfl) rfl TL.fin) ?_
    refine DH.done [(209,_),(204,_),(208,_),(207,_),(206,_),(205,_),(203,_),(202,_),(201,_),(200,_),(199,_),(198,_),(197,_),(196,_),(195,_),(194,_),(193,_),(192,_),(191,_),(190,_),(189,_),(188,_),(187,_),(186,_),(185,_),(184,_),(183,_),(182,_),(181,_),(180,_),(179,_),(178,_),(177,_),(176,_),(175,_),(174,_),(173,_),(172,_),(171,_),(170,_),(169,_),(168,_),(165,_),(167,_),(166,_),(164,_),(163,_),(162,_),(161,_),(160,_),(159,_),(158,_),(157,_),(156,_),(155,_),(151,_),(154,_),(153,_),(152,_),(150,_),(149,_),(148,_),(147,_),(146,_)] [_,_,_] (by kernel_rfl) (by kernel_rfl) (by kernel_rfl) (by kernel_rfl) rfl rfl ?_
    refine TL.on rfl rfl rfl rfl ?_
    refine TL.callV hF (round_true (r:=⟨1,[(0,1),(0,2)],[],[(0,0),(0,3),(1,4)],[]⟩) ((hl10.item _ (by simp)).up (by simp)) (y:=⟨⟨1,[(0,1),(0,2)],[],[(0,0),(0,3),(1,4)],[]⟩,some ⟨b204,0,none⟩,2,none,0,some ⟨b208,0,none⟩,3,none,0⟩) ⟨(row_own (b:=b204) (cs:=([(0,1),(0,2)]:List Key).flatMap kC) (e:=25) (by simp)),Row.none,(row_own (b:=b208) (cs:=([(0,0),(0,3),(1,4)]:List Key).flatMap kC) (e:=25) (by simp)),Row.none⟩ hx10 rfl (by decide)) rfl rfl ?_
    refine TL.pickT hF rfl rfl rfl rfl ?_
    refine TL.assign hF rfl rfl ?_
    refine TL.nil ?_
    refine TQ.then_n ?_
    refine T.ret ?_
    exact TQ.retsF [0] _ hb rfl rfl rfl (fun _=>rfl)
end Go.Proofs.YtdiacobmhkmljaaDoor
/- Expressions that numbers make. -/
namespace Go.Proofs.YtdiacobmhkmljaaDoor
open Go.Sl
variable {S:Nat→Prop} {w0:World} {η:Heap}
/-- How large what is drafted can be. -/
def Bd:Nat→Nat
 | 0=>1
 | d+1=>1+3*Bd d
/-- Numbers of 64 bits. -/
def I64 (n:Int):Prop:=-9223372036854775808≤n∧n≤9223372036854775807
structure DS where
 i:Nat
 l:List TE
 a:Option Addr
 c:Nat
 g:Seg
 at':Int
 H:Heap
end Go.Proofs.YtdiacobmhkmljaaDoor
/- What numbers make: functions, cells, a call; rounds of edits. -/
namespace Go.Proofs.YtdiacobmhkmljaaDoor
open Go.Sl
variable {S:Nat→Prop} {w0:World} {η:Heap}
structure MS where
 i:Nat
 l:List TE
 a:Option Addr
 c:Nat
 g:Seg
 at':Int
 H:Heap
structure CS where
 j:Nat
 l:List Int
 a:Option Addr
 c:Nat
 g:Seg
structure OS where
 i:Nat
 ps:List EH
 a:Option Addr
 c:Nat
 g:Seg
 H:Heap
structure IS where
 k:Nat
 i:Nat
 l:List (Int × Int)
 a:Option Addr
 c:Nat
 g:Seg
/-- A round that numbers make. -/
def RndOk (m:Nat) (l:List (Int × Int)):Prop:=l.length≤3∧∀ x∈l,okEdit m x=true
end Go.Proofs.YtdiacobmhkmljaaDoor
/- Cells behind edits; nodes found; whether a round fits two traces. -/
namespace Go.Proofs.YtdiacobmhkmljaaDoor
open Go.Sl
variable {S:Nat→Prop} {w0:World} {η:Heap}
def zNH:NH:=⟨⟨(0,0),0,[]⟩,none,0⟩
/-- What is found in a trace. -/
def NdR (l:List NH) (k:Key) (x:NH) (b:Bool):Prop:=(b=true→x∈l∧findN (nds l) k=some x.nd)∧(b=false→findN (nds l) k=none∧x=zNH)
end Go.Proofs.YtdiacobmhkmljaaDoor
/- What the arguments of the laws hold; the tables that the program's start lays. -/
namespace Go.Proofs.YtdiacobmhkmljaaDoor
open Go.Sl Go.ChangeShapes Go.WideShapes Go.ChangeAt Go.Deep Go.RowKit
section
variable {H:Type} {enc:TypeId × Value→H} {W:World}
theorem list1 {l:List Value} (h:l.length=1):∃ a,l=[a]:=by
  match l,h with
  | [a],_=>exact ⟨a,rfl⟩
theorem u3:Tryd.prog.underlying 3=some (.int .i64):=by kernel_rfl
theorem u4:Tryd.prog.underlying 4=some .bool:=by kernel_rfl
theorem u126:Tryd.prog.underlying 126=some (.array 7 3):=by kernel_rfl
theorem u133:Tryd.prog.underlying 133=some (.array 10 132):=by kernel_rfl
theorem k3:Tryd.prog.cellsOf 3=1:=by kernel_rfl
theorem k132:Tryd.prog.cellsOf 132=1:=by kernel_rfl
end
theorem Tryd.own:ownKnob Tryd.prog.godebug=none:=by kernel_rfl
theorem Tryd.laidOut:laidOutB Tryd.prog=true:=by kernel_rfl
theorem gParts : Tryd.prog.globalNamed "deltaworks/trace.parts" = some 0 := by kernel_rfl
theorem tParts:(Tryd.prog.globals[0]?).map (·.type)=some 126:=by kernel_rfl
theorem gWords : Tryd.prog.globalNamed "deltaworks/trace.words" = some 1 := by kernel_rfl
theorem tWords:(Tryd.prog.globals[1]?).map (·.type)=some 133:=by kernel_rfl
abbrev laidL : List (String × DataW Unit) := [("deltaworks/trace.words", Rows.laid_deltaworks_trace_words), ("deltaworks/trace.parts", Rows.laid_deltaworks_trace_parts)]
theorem door_met (os:Os) (args:Array Value):laidMetH Tryd.prog laidL ((World.doorLaid Tryd.prog 2000 os).forCall (fun _ _=>0) ⟨#[],args,[]⟩).memory :=
  laidMetH_of_parts3 (fuel:=8) (laidMet_of_run' 8 (by kernel_rfl) (by kernel_rfl)) (by kernel_rfl) (by kernel_rfl)
theorem op_read {W : World} {m f0 : Nat} {cs : List Value} {y : DataW (List UInt8) × List MemPlace} {c : UInt8} {r : List UInt8} (hone : ((List.range Tryd.prog.funcs.size).filter fun f => (Tryd.prog.funcs[f]?).any (·.name.toUTF8.data.toList == c :: r)) = [f0])
    (hl:cs.length=1) (h:DataW.trod (funcToken Tryd.prog) Tryd.prog W 0 (fun _=>true) true m 132 cs=some y) (hy:y.1 = .held (c::r)):cs=[.func (.func f0) #[] #[]]:=by
  obtain ⟨c0,rfl⟩:=list1 hl
  obtain ⟨d2,q2⟩:=y
  simp only at hy
  subst hy
  rw [Go.func_of_trod Tryd.underlying132 hone h]
theorem parts_of_laid {W:World} (h:laidMetH Tryd.prog laidL W):∀ o:Nat,o<7→At (Old W) W [] ⟨0,o,none⟩ (.int .i64 (partsS o)):=by
  have hp : laidMet Tryd.prog [("deltaworks/trace.parts", Rows.laid_deltaworks_trace_parts)] W := (show laidMet Tryd.prog _ W ∧ handlesMet Tryd.prog _ W from h).1
  obtain ⟨ps,⟨g,t,cs,f1,p1,q1,hg,ht,hv,hd,_,_⟩,_,_⟩:=hp
  obtain rfl:=Option.some.inj (gParts.symm.trans hg)
  obtain rfl:=Option.some.inj (tParts.symm.trans ht)
  obtain ⟨xs,m,rfl,hx1,hlen,hn,hel⟩:=DataW.trod_array u126 hd
  rw [k3] at hel
  simp only [Prod.mk.injEq,Rows.laid_deltaworks_trace_parts,DataW.agg.injEq] at hx1
  obtain ⟨hx,_⟩:=hx1
  match xs,hn,hx,hel with
  | [x0,x1,x2,x3,x4,x5,x6],_,hx,hel =>
    simp only [List.map_cons,List.map_nil,List.cons.injEq,and_true] at hx
    obtain ⟨q0,q1,q2,q3,q4,q5,q6⟩:=hx
    have rd:∀ {i:Nat} {x:DataW Unit × List MemPlace} {z:Int},DataW.trod (fun _=>()) Tryd.prog W 0 (fun _=>true) false m 3 ((cs.toList.drop (i*1)).take 1)=some x → .lit (.int .i64 z)=x.1→(cs.toList.drop (i*1)).take 1=[.int .i64 z]:=by
      intro i x z h1 h2
      obtain ⟨n,e1,e2,_⟩:=DataW.trod_int u3 h1
      rw [e2] at h2
      simp only [DataW.lit.injEq,Lit.int.injEq,true_and] at h2
      rw [e1,h2]
    intro o ho
    have key:(cs.toList.drop (o*1)).take 1=[.int .i64 (partsS o)]:=by
      have:o=0∨o=1∨o=2∨o=3∨o=4∨o=5∨o=6:=by omega
      rcases this with rfl | rfl | rfl | rfl | rfl | rfl | rfl
      · exact rd (hel 0 (by decide)) q0
      · exact rd (hel 1 (by decide)) q1
      · exact rd (hel 2 (by decide)) q2
      · exact rd (hel 3 (by decide)) q3
      · exact rd (hel 4 (by decide)) q4
      · exact rd (hel 5 (by decide)) q5
      · exact rd (hel 6 (by decide)) q6
    have hcell:W.cell? ⟨0,o,none⟩=some (.int .i64 (partsS o)):=by
      have h2:((cs.toList.drop (o*1)).take 1)[0]?=some (.int .i64 (partsS o)):=by rw [key]; rfl
      rw [List.getElem?_take,if_pos (by decide),List.getElem?_drop] at h2
      have:=World.var?_cell hg hv o
      rw [this,← Array.getElem?_toList]
      simpa using h2
    exact .rd (cell_lt hcell).1 hcell
theorem words_of_laid {W:World} (h:laidMetH Tryd.prog laidL W):∀ o:Nat,o<10→At (Old W) W [] ⟨1,o,none⟩ (opV o):=by
  obtain ⟨g, t, cs, fuel, p, hg, ht, hv, hd⟩ := h.funcs (n := "deltaworks/trace.words") (List.mem_cons_self ..)
  obtain rfl:=Option.some.inj (gWords.symm.trans hg)
  obtain rfl:=Option.some.inj (tWords.symm.trans ht)
  obtain ⟨xs,m,rfl,hx1,hlen,hn,hel⟩:=DataW.trod_array u133 hd
  have hlen:cs.toList.length=10:=hlen.trans (by kernel_rfl)
  rw [k132] at hel
  simp only [Prod.mk.injEq,DataW.funcsOut,DataW.funcsOutAll,DataW.agg.injEq] at hx1
  obtain ⟨hx,_⟩:=hx1
  match xs,hn,hx,hel with
  | [x0,x1,x2,x3,x4,x5,x6,x7,x8,x9],_,hx,hel =>
    simp only [List.map_cons,List.map_nil,List.cons.injEq,and_true] at hx
    obtain ⟨q0,q1,q2,q3,q4,q5,q6,q7,q8,q9⟩:=hx
    have ln:∀ i,i<10→((cs.toList.drop (i*1)).take 1).length=1:=by
      intro i hi
      rw [List.length_take,List.length_drop,hlen]; omega
    intro o ho
    have key:(cs.toList.drop (o*1)).take 1=[opV o]:=by
      rcases ten ho with rfl | rfl | rfl | rfl | rfl | rfl | rfl | rfl | rfl | rfl
      · exact op_read (f0:=116) (by kernel_rfl) (ln 0 (by decide)) (hel 0 (by decide)) q0.symm
      · exact op_read (f0:=120) (by kernel_rfl) (ln 1 (by decide)) (hel 1 (by decide)) q1.symm
      · exact op_read (f0:=121) (by kernel_rfl) (ln 2 (by decide)) (hel 2 (by decide)) q2.symm
      · exact op_read (f0:=122) (by kernel_rfl) (ln 3 (by decide)) (hel 3 (by decide)) q3.symm
      · exact op_read (f0:=123) (by kernel_rfl) (ln 4 (by decide)) (hel 4 (by decide)) q4.symm
      · exact op_read (f0:=124) (by kernel_rfl) (ln 5 (by decide)) (hel 5 (by decide)) q5.symm
      · exact op_read (f0:=125) (by kernel_rfl) (ln 6 (by decide)) (hel 6 (by decide)) q6.symm
      · exact op_read (f0:=126) (by kernel_rfl) (ln 7 (by decide)) (hel 7 (by decide)) q7.symm
      · exact op_read (f0:=127) (by kernel_rfl) (ln 8 (by decide)) (hel 8 (by decide)) q8.symm
      · exact op_read (f0:=128) (by kernel_rfl) (ln 9 (by decide)) (hel 9 (by decide)) q9.symm
    have hcell:W.cell? ⟨1,o,none⟩=some (opV o):=by
      have h2:((cs.toList.drop (o*1)).take 1)[0]?=some (opV o):=by rw [key]; rfl
      rw [List.getElem?_take,if_pos (by decide),List.getElem?_drop] at h2
      have:=World.var?_cell hg hv o
      rw [this,← Array.getElem?_toList]
      simpa using h2
    exact .rd (cell_lt hcell).1 hcell
theorem tabs_of_laid {W:World} (h:laidMetH Tryd.prog laidL W):Tabs (Old W) W:=⟨parts_of_laid h,words_of_laid h⟩
end Go.Proofs.YtdiacobmhkmljaaDoor
/- Play with rounds that lie in memory; cells put back; numbers in order. -/
namespace Go.Proofs.YtdiacobmhkmljaaDoor
open Go.Sl
variable {S:Nat→Prop} {w0:World} {η:Heap}
/-- What puts cells back. -/
def backL (cells:List Int):List (Int × Int):=cells.zipIdx.map fun x=>((x.2:Int),x.1)
theorem run_made {F:List Ex} {cells:List Int} {top:Key} (h:askedS F cells top=0):runE F cells top=(traceS F cells top,0):=by unfold runE; rw [if_pos h]
theorem tra_of {F:List Ex} {cells:List Int} {top:Key} (h:askedS F cells top=0):Tra F cells top (traceS F cells top)∧(callsS F cells top).2=V F cells top∧(traceS F cells top).length≤1608:=by
 obtain ⟨hs,k1,k2,k3,k4⟩:=scn_of h
 obtain ⟨hg,h2,h3⟩:=calls_ok (cells:=cells) hs.right k1 k2 k3 (by omega)
 refine ⟨h3,h2,?_⟩
 have:=good_len hs hg
 unfold traceS; rw [sort_len hg.nd]; exact this
end Go.Proofs.YtdiacobmhkmljaaDoor
/- Sums of the first cells: what the chapter's function is worth, depends on, and runs again. -/
namespace Go.Proofs.YtdiacobmhkmljaaDoor
def psum (cells:List Int) (i:Nat):Int:=(cells.take i).sum
theorem ev_zero {V:Key→Int} {cells:List Int}:evP V cells 0 (fnE funsF (0,0))=(0,[]):=by
  show evP V cells 0 (.nd 5 0 [argE,sumE,intE 0])=_
  simp [evP,ifP,argE,intE]
theorem ev_add {V:Key→Int} {cells:List Int} {arg:Int} {X Y:Ex} {a b:Int} {ds es:List Dp} (h1:evP V cells arg X=(a,ds)) (h2:evP V cells arg Y=(b,es)):evP V cells arg (.nd 3 0 [X,Y])=(wrap32 (a+b),ds++es):=by
  simp [evP,evsP,h1,h2,finP,binS,at0]
theorem D_zero {cells:List Int}:D funsF cells (0,0)=[]:=by unfold D; rw [ev_zero]
def ks (n:Nat):List Key:=(List.range n).map fun i:Nat=>((0:Int),(i:Int))
theorem ks_up (n:Nat):KUp (ks n):=by
  unfold KUp ks
  rw [List.pairwise_map]
  refine List.pairwise_lt_range.imp fun {a b} h=>?_
  rw [kLt_iff]; right; exact ⟨rfl,by simp only; omega⟩
theorem mem_ks {n:Nat} {k:Key}:k∈ks n↔∃ i:Nat,i<n∧k=(0,(i:Int)):=by
  unfold ks
  rw [List.mem_map]
  constructor
  · rintro ⟨i,h,rfl⟩; exact ⟨i,List.mem_range.1 h,rfl⟩
  · rintro ⟨i,h,rfl⟩; exact ⟨i,List.mem_range.2 h,rfl⟩
def wantL (k n:Nat) (b:Bool):List Key:=if b then (List.range (n - k)).map fun j:Nat=>((0:Int),((k+1+j:Nat):Int)) else []
end Go.Proofs.YtdiacobmhkmljaaDoor
/- Facts of single functions: two hundred calls, one within the other; what is not formed. -/
namespace Go.Proofs.YtdiacobmhkmljaaDoor
theorem one_step {V : Key → Int} {j : Nat} (h2 : j < 200) :
    evP V [1] ((j:Int)+1) (fnE funsF (0,((j:Int)+1)))=(wrap32 (1+V (0,(j:Int))),[cellD 0 1,gotD (0,(j:Int)) (V (0,(j:Int)))]):=by
  show evP V [1] ((j:Int)+1) (.nd 5 0 [argE,sumE,intE 0])=_
  have e2:cellAt [1] (j:Int)=0:=by unfold cellAt; simp [Int.emod_one]
  have e1:wrap32 (((j:Int)+1)-1)=(j:Int):=by unfold wrap32; omega
  have e3:evP V [1] ((j:Int)+1) (lessE 1)=((j:Int),[]):=by
    simp only [lessE,argE,intE,evP,evsP,finP,binS,at0]
    simp only [List.getD_cons_zero,List.getD_cons_succ,List.append_nil]
    simp [show wrap32 (j:Int)=(j:Int) by unfold wrap32; omega]
  have e4:evP V [1] ((j:Int)+1) sumE=(wrap32 (1+V (0,(j:Int))),[cellD 0 1,gotD (0,(j:Int)) (V (0,(j:Int)))]):=by
    have a1:evP V [1] ((j:Int)+1) (.nd 2 0 [lessE 1])=(1,[cellD 0 1]):=by
      simp [evP,evsP,e3,finP,at0,e2]
    have a2:evP V [1] ((j:Int)+1) (.nd 6 0 [lessE 1])=(V (0,(j:Int)),[gotD (0,(j:Int)) (V (0,(j:Int)))]):=by
      simp [evP,evsP,e3,finP,at0,show (j:Int)<(j:Int)+1 by omega]
    exact ev_add a1 a2
  have e5:evP V [1] ((j:Int)+1) argE=(((j:Int)+1),[]):=by simp [argE,evP]
  have _:=e1
  unfold evP
  rw [if_neg (by decide),if_neg (by decide),if_pos rfl]
  unfold ifP
  rw [e5,if_pos (by simp only; omega),e4]; rfl
theorem V_one:∀ i:Nat,i≤200→V funsF [1] (0,(i:Int))=(i:Int)
  | 0,_=>by
    rw [V_eq (by simp) (by simp)]
    rw [show ((0,((0:Nat):Int)):Key)=(0,0) from rfl,ev_zero]; rfl
  | j+1,h=>by
    rw [V_eq (by simp only; omega) (by simp only; omega)]
    have:=one_step (V:=V funsF [1]) (j:=j) (by omega)
    rw [show ((j+1:Nat):Int)=(j:Int)+1 from rfl,this,V_one j (by omega)]
    show wrap32 (1+(j:Int))=(j:Int)+1
    unfold wrap32; omega
theorem D_one {j:Nat} (h:j<200):D funsF [1] (0,((j+1:Nat):Int))=[cellD 0 1,gotD (0,(j:Int)) (V funsF [1] (0,(j:Int)))]:=by
  unfold D
  rw [show ((j+1:Nat):Int)=(j:Int)+1 from rfl,one_step h]
theorem one_keys {l:List Nd} (h:Tra funsF [1] (0,200) l):keysN l=ks 201:=by
  refine kup_ext h.up (ks_up _) fun k=>?_
  rw [mem_ks]
  constructor
  · intro hk
    obtain ⟨x,hx,rfl⟩:=List.mem_map.1 hk
    refine h.least (fun k=>∃ i:Nat,i<201∧k=(0,(i:Int))) (fun k hk d hd hc=>?_) ⟨200,by omega,rfl⟩ x hx
    obtain ⟨i,hi,rfl⟩:=hk
    match i,hi,hd with
    | 0,_,hd=>rw [show ((0,((0:Nat):Int)):Key)=(0,0) from rfl,D_zero] at hd; simp at hd
    | j+1,hi,hd =>
      rw [D_one (by omega)] at hd
      simp only [List.mem_cons,List.not_mem_nil,or_false] at hd
      rcases hd with rfl | rfl
      · simp [cellD] at hc
      · exact ⟨j,by omega,rfl⟩
  · have key:∀ j:Nat,j≤200→hasN l (0,((200 - j:Nat):Int))=true:=by
      intro j
      induction j with
      | zero=>intro _; exact h.tops
      | succ j ih =>
        intro hj
        obtain ⟨x,hx,hk,_,_,hd⟩:=h.find (ih (by omega))
        obtain ⟨_,_,_,_,_,_,h7⟩:=h.ok x hx
        have e:200 - j=(200 - (j+1))+1:=by omega
        rw [e,D_one (by omega)] at hd
        exact h7 (gotD (0,((200 - (j+1):Nat):Int)) (V funsF [1] (0,((200 - (j+1):Nat):Int)))) (by rw [hd]; simp) rfl
    rintro ⟨i,hi,rfl⟩
    have:=key (200 - i) (by omega)
    rw [show 200 - (200 - i)=i by omega] at this
    exact hasN_iff.1 this
/-- Two hundred calls, one within the other. -/
theorem deep_ok:∃ T:List Nd,runE funsF [1] (0,200)=(T,0)∧T.length=201∧∃ x:Nd,T[200]?=some x∧x.word=200:=by
  have hask:askedS funsF [1] (0,200)=0:=by decide +kernel
  obtain ⟨ta,_,_⟩:=tra_of hask
  have hk:=one_keys ta
  have hl:(traceS funsF [1] (0,200)).length=201:=by
    have:=congrArg List.length hk
    simpa [keysN,ks] using this
  refine ⟨_,run_made hask,hl,_,List.getElem?_eq_getElem (by omega),?_⟩
  have hx:=ta.ok _ (List.getElem_mem (show 200<(traceS funsF [1] (0,200)).length by omega))
  have hkey:((traceS funsF [1] (0,200))[200]'(by omega)).key=(0,200):=by
    have h1:(keysN (traceS funsF [1] (0,200)))[200]?=(ks 201)[200]?:=by rw [hk]
    unfold keysN ks at h1
    rw [List.getElem?_map,List.getElem?_eq_getElem (by omega),List.getElem?_map,List.getElem?_eq_getElem (by simp)] at h1
    simpa using h1
  obtain ⟨_,_,_,_,hw,_,_⟩:=hx
  rw [hw,hkey]
  exact V_one 200 (by omega)
def tallE:Nat→Ex
  | 0=>argE
  | n+1=>.nd 2 0 [tallE n]
def longE:Nat→Ex
  | 0=>argE
  | n+1=>.nd 5 0 [.nd 4 0 [argE,argE],argE,longE n]
/-- What is not formed. -/
def badE:List (List Ex):=[[],List.replicate 9 noE,[.nd 7 0 []],[.nd (-1) 0 []],[intE 2147483648],[.nd 1 0 [argE]],[.nd 2 0 []],[.nd 3 10 [argE,argE]],[.nd 3 (-1) [argE,argE]],[.nd 6 1 [argE]],[tallE 20],[longE 10]]
theorem bad_ok:badE.all (fun F=>decide (checkS F=1))=true:=by decide +kernel
def wildE:List Ex:=[.nd 3 0 [.nd 6 0 [argE],.nd 3 2 [.nd 2 0 [intE (-1)],.nd 2 0 [intE (-1)]]]]
theorem wild_ok:runE wildE [5,7] (0,200)=([⟨(0,200),49,[cellD 1 7,cellD 1 7]⟩],0):=by decide +kernel
end Go.Proofs.YtdiacobmhkmljaaDoor
