/- Several texts in one. -/
import Derived.Test.YtdiacobmhkmljaaGreatDoorUe
import Derived.Test.YtdiacobmhkmljaaGreatDoorUd
import Derived.Test.YtdiacobmhkmljaaGreatDoorUb
/- The chapter's functions; what all laws end with. -/
namespace Go.Proofs.YtdiacobmhkmljaaGreatDoor
open Go.Sl
variable {S:Nat→Prop} {w0:World} {η:Heap}
theorem tr_own {b:Nat} {op n:Int} {c:Nat} {l:List TE} (h:[(b,Obj.cells (l.flatMap teC).toArray 87 (0,0))]∈η) (hc:l.length≤c) (hl:l.length<9223372036854775808) (hp:∀ y∈l,Tr S w0 η y):Tr S w0 η (.nd op n (some ⟨b,0,none⟩) c l) :=
 tr_iff.2 ⟨⟨row_own (e:=87) h,hc,hl⟩,hp⟩
theorem RL.frz {S':Nat→Prop} {w1:World} {ηr:Heap} {a:Option Addr} {l:List RH} (h:RL S w0 ηr a l) (hz:Frz S S' w0 w1 ηr):RL S' w1 [] a l:=h.map fun _ _ hr=>hr.frz hz
theorem RL.old {S':Nat→Prop} {w1:World} {ηr:Heap} {a:Option Addr} {l:List RH} (h:RL S w0 [] a l) (hz:Frz S S' w0 w1 ηr):RL S' w1 [] a l:=h.map fun _ _ hr=>hr.old hz
theorem RL.up {η':Heap} {a:Option Addr} {l:List RH} (h:RL S w0 η a l) (hs:∀ s∈η,s∈η'):RL S w0 η' a l:=h.map fun _ _ hr=>hr.up hs
theorem RL.ro {η':Heap} {a:Option Addr} {l:List RH} (h:RL S w0 [] a l):RL S w0 η' a l:=h.up (by simp)
theorem RL.atA {a:Option Addr} {l:List RH} (h:RL S w0 η a l) {i:Nat} (hi:i<l.length):∀ j v,(rhC l[i])[j]?=some v→At S w0 η ⟨(sAt a (i*5)).block,(sAt a (i*5)).off+j,Option.none⟩ v:=h.row.tabA rhC_len hi
theorem RL.ad {a:Option Addr} {l:List RH} (h:RL S w0 η a l) {i:Nat} (hi:i<l.length):∃ ad,a=some ad∧ad.spot=Option.none:=h.row.tad rhC_len (by decide) hi
theorem GL.frz {α:Type} {enc:α→List Value} {S':Nat→Prop} {w1:World} {ηr:Heap} {a:Option Addr} {ps:List (GH α)} (h:GL enc S w0 ηr a ps) (hz:Frz S S' w0 w1 ηr):GL enc S' w1 [] a ps:=⟨h.row.frz hz,fun p hp=>(h.item p hp).frz hz⟩
theorem GL.old {α:Type} {enc:α→List Value} {S':Nat→Prop} {w1:World} {ηr:Heap} {a:Option Addr} {ps:List (GH α)} (h:GL enc S w0 [] a ps) (hz:Frz S S' w0 w1 ηr):GL enc S' w1 [] a ps:=⟨h.row.old hz,fun p hp=>(h.item p hp).old hz⟩
/-- The chapter's functions, as memory holds them. -/
def sumT (l1 b3 l2 b6 b8:Nat):TE:=.nd 3 0 (some ⟨b8,0,none⟩) 2 [.nd 2 0 (some ⟨b3,0,none⟩) 1 [lessT l1 1],.nd 6 0 (some ⟨b6,0,none⟩) 1 [lessT l2 1]]
def f0T (l1 b3 l2 b6 b8 b13:Nat):TE:=.nd 5 0 (some ⟨b13,0,none⟩) 3 [.nd 1 0 none 0 [],sumT l1 b3 l2 b6 b8,.nd 0 0 none 0 []]
def f1T (l3 b17 b19:Nat):TE:=.nd 4 0 (some ⟨b19,0,none⟩) 2 [.nd 0 10 none 0 [],.nd 6 0 (some ⟨b17,0,none⟩) 1 [lessT l3 1]]
set_option maxHeartbeats 2000000 in
theorem functions_fn  :
  Rt Tryz.prog 21 [].toArray S w0 η (fun v η'=>∃ a c fl segs,v = .slice a fl.length c∧Fs S w0 segs a fl∧fl.map TE.ex=funsF∧η'=segs++η):=by
 have hF:=open_wide
 refine Rt.of (fn:=Tryz.f21) Tryz.func21 rfl rfl ?_
 refine T.seq ?_
 refine T.region ?_
 refine TL.assign hF rfl rfl ?_
 refine TL.nil ?_
 refine TQ.then_n ?_
 refine T.seq ?_
 refine T.region ?_
 refine TL.call hF (less_fn 1) rfl rfl ?_
 rintro _ _ ⟨l1,rfl,rfl⟩
 refine TL.buildSlice hF rfl (cs:=(([lessT l1 1]:List TE).flatMap teC).toArray) (e:=87) (fun w=>by kernel_rfl) rfl (fun c3=>?_)
 refine TL.callV hF (of_fn) rfl rfl ?_
 refine TL.call hF (less_fn 1) rfl rfl ?_
 rintro _ _ ⟨l2,rfl,rfl⟩
 refine TL.buildSlice hF rfl (cs:=(([lessT l2 1]:List TE).flatMap teC).toArray) (e:=87) (fun w=>by kernel_rfl) rfl (fun c6=>?_)
 refine TL.callV hF (of_fn) rfl rfl ?_
 refine TL.buildSlice hF rfl (cs:=(([.nd 2 0 (some ⟨c3,0,none⟩) 1 [lessT l1 1],.nd 6 0 (some ⟨c6,0,none⟩) 1 [lessT l2 1]]:List TE).flatMap teC).toArray) (e:=87) (fun w=>by kernel_rfl) rfl (fun c8=>?_)
 refine TL.callV hF (of_fn) rfl rfl ?_
 refine TL.alloc hF rfl (fun b1=>?_)
 refine TL.storeAI hF (teC (sumT l1 c3 l2 c6 c8)) 0 rfl rfl rfl rfl (teC1 _) (by simp [Value.cells,teC]) ?_
 refine TL.nil ?_
 refine TQ.then_n ?_
 refine T.seq ?_
 refine T.draw ?_
 refine DR.stepV [_] rfl [] rfl rfl trivial (fun ext=>TL.callV hF (of_fn) rfl rfl TL.fin) ?_
 refine DR.stepV [_,_] rfl [(1,_,none)] rfl rfl ⟨⟨rfl,by kernel_rfl⟩,trivial⟩ (fun ext=>TL.loadA hF (teC (sumT l1 c3 l2 c6 c8)) rfl rfl (own_list (i:=0) (cs:=teC (sumT l1 c3 l2 c6 c8)) rfl) rfl TL.fin) ?_
 refine DR.stepV [_,_,_] rfl [] rfl rfl trivial (fun ext=>TL.callV hF (of_fn) rfl rfl TL.fin) ?_
 refine DR.done [(12,_),(11,_),(10,_)] [_,_,_,_,_,_,_,_,_,_] mixed (by kernel_rfl) (by kernel_rfl) (by kernel_rfl) rfl rfl ?_
 refine TL.buildSlice hF rfl (cs:=(([.nd 1 0 none 0 [],sumT l1 c3 l2 c6 c8,.nd 0 0 none 0 []]:List TE).flatMap teC).toArray) (e:=87) (fun w=>by kernel_rfl) rfl (fun c13=>?_)
 refine TL.callV hF (of_fn) rfl rfl ?_
 refine TL.callV hF (of_fn) rfl rfl ?_
 refine TL.call hF (less_fn 1) rfl rfl ?_
 rintro _ _ ⟨l3,rfl,rfl⟩
 refine TL.buildSlice hF rfl (cs:=(([lessT l3 1]:List TE).flatMap teC).toArray) (e:=87) (fun w=>by kernel_rfl) rfl (fun c17=>?_)
 refine TL.callV hF (of_fn) rfl rfl ?_
 refine TL.buildSlice hF rfl (cs:=(([.nd 0 10 none 0 [],.nd 6 0 (some ⟨c17,0,none⟩) 1 [lessT l3 1]]:List TE).flatMap teC).toArray) (e:=87) (fun w=>by kernel_rfl) rfl (fun c19=>?_)
 refine TL.callV hF (of_fn) rfl rfl ?_
 refine TL.buildSlice hF rfl (cs:=(([f0T l1 c3 l2 c6 c8 c13,f1T l3 c17 c19]:List TE).flatMap teC).toArray) (e:=87) (fun w=>by kernel_rfl) rfl (fun c21=>?_)
 refine TL.assign hF rfl rfl ?_
 refine TL.nil ?_
 refine TQ.then_n ?_
 refine T.ret ?_
 refine TQ.hsub ([[(c21,Obj.cells (([f0T l1 c3 l2 c6 c8 c13,f1T l3 c17 c19]:List TE).flatMap teC).toArray 87 (0,0))],[(c19,Obj.cells (([.nd 0 10 none 0 [],.nd 6 0 (some ⟨c17,0,none⟩) 1 [lessT l3 1]]:List TE).flatMap teC).toArray 87 (0,0))],[(c17,Obj.cells (([lessT l3 1]:List TE).flatMap teC).toArray 87 (0,0))],lessS l3 1,[(c13,Obj.cells (([.nd 1 0 none 0 [],sumT l1 c3 l2 c6 c8,.nd 0 0 none 0 []]:List TE).flatMap teC).toArray 87 (0,0))],[(c8,Obj.cells (([.nd 2 0 (some ⟨c3,0,none⟩) 1 [lessT l1 1],.nd 6 0 (some ⟨c6,0,none⟩) 1 [lessT l2 1]]:List TE).flatMap teC).toArray 87 (0,0))],[(c6,Obj.cells (([lessT l2 1]:List TE).flatMap teC).toArray 87 (0,0))],lessS l2 1,[(c3,Obj.cells (([lessT l1 1]:List TE).flatMap teC).toArray 87 (0,0))],lessS l1 1]++η) (List.Sublist.cons_cons _ (List.Sublist.cons_cons _ (List.Sublist.cons_cons _ (List.Sublist.cons_cons _ (List.Sublist.cons_cons _ (List.sublist_cons_self _ _)))))) ?_
 refine TQ.rets [0] _ rfl rfl rfl ?_
 refine ⟨some ⟨c21,0,none⟩,2,[f0T l1 c3 l2 c6 c8 c13,f1T l3 c17 c19],[[(c21,Obj.cells (([f0T l1 c3 l2 c6 c8 c13,f1T l3 c17 c19]:List TE).flatMap teC).toArray 87 (0,0))],[(c19,Obj.cells (([.nd 0 10 none 0 [],.nd 6 0 (some ⟨c17,0,none⟩) 1 [lessT l3 1]]:List TE).flatMap teC).toArray 87 (0,0))],[(c17,Obj.cells (([lessT l3 1]:List TE).flatMap teC).toArray 87 (0,0))],lessS l3 1,[(c13,Obj.cells (([.nd 1 0 none 0 [],sumT l1 c3 l2 c6 c8,.nd 0 0 none 0 []]:List TE).flatMap teC).toArray 87 (0,0))],[(c8,Obj.cells (([.nd 2 0 (some ⟨c3,0,none⟩) 1 [lessT l1 1],.nd 6 0 (some ⟨c6,0,none⟩) 1 [lessT l2 1]]:List TE).flatMap teC).toArray 87 (0,0))],[(c6,Obj.cells (([lessT l2 1]:List TE).flatMap teC).toArray 87 (0,0))],lessS l2 1,[(c3,Obj.cells (([lessT l1 1]:List TE).flatMap teC).toArray 87 (0,0))],lessS l1 1],rfl,⟨row_own (e:=87) (by simp),fun x hx=>?_⟩,rfl,rfl⟩
 have q1:Tr S w0 [[(c21,Obj.cells (([f0T l1 c3 l2 c6 c8 c13,f1T l3 c17 c19]:List TE).flatMap teC).toArray 87 (0,0))],[(c19,Obj.cells (([.nd 0 10 none 0 [],.nd 6 0 (some ⟨c17,0,none⟩) 1 [lessT l3 1]]:List TE).flatMap teC).toArray 87 (0,0))],[(c17,Obj.cells (([lessT l3 1]:List TE).flatMap teC).toArray 87 (0,0))],lessS l3 1,[(c13,Obj.cells (([.nd 1 0 none 0 [],sumT l1 c3 l2 c6 c8,.nd 0 0 none 0 []]:List TE).flatMap teC).toArray 87 (0,0))],[(c8,Obj.cells (([.nd 2 0 (some ⟨c3,0,none⟩) 1 [lessT l1 1],.nd 6 0 (some ⟨c6,0,none⟩) 1 [lessT l2 1]]:List TE).flatMap teC).toArray 87 (0,0))],[(c6,Obj.cells (([lessT l2 1]:List TE).flatMap teC).toArray 87 (0,0))],lessS l2 1,[(c3,Obj.cells (([lessT l1 1]:List TE).flatMap teC).toArray 87 (0,0))],lessS l1 1] (lessT l1 1):=lessT_tr (by simp)
 have q2:Tr S w0 [[(c21,Obj.cells (([f0T l1 c3 l2 c6 c8 c13,f1T l3 c17 c19]:List TE).flatMap teC).toArray 87 (0,0))],[(c19,Obj.cells (([.nd 0 10 none 0 [],.nd 6 0 (some ⟨c17,0,none⟩) 1 [lessT l3 1]]:List TE).flatMap teC).toArray 87 (0,0))],[(c17,Obj.cells (([lessT l3 1]:List TE).flatMap teC).toArray 87 (0,0))],lessS l3 1,[(c13,Obj.cells (([.nd 1 0 none 0 [],sumT l1 c3 l2 c6 c8,.nd 0 0 none 0 []]:List TE).flatMap teC).toArray 87 (0,0))],[(c8,Obj.cells (([.nd 2 0 (some ⟨c3,0,none⟩) 1 [lessT l1 1],.nd 6 0 (some ⟨c6,0,none⟩) 1 [lessT l2 1]]:List TE).flatMap teC).toArray 87 (0,0))],[(c6,Obj.cells (([lessT l2 1]:List TE).flatMap teC).toArray 87 (0,0))],lessS l2 1,[(c3,Obj.cells (([lessT l1 1]:List TE).flatMap teC).toArray 87 (0,0))],lessS l1 1] (lessT l2 1):=lessT_tr (by simp)
 have q3:Tr S w0 [[(c21,Obj.cells (([f0T l1 c3 l2 c6 c8 c13,f1T l3 c17 c19]:List TE).flatMap teC).toArray 87 (0,0))],[(c19,Obj.cells (([.nd 0 10 none 0 [],.nd 6 0 (some ⟨c17,0,none⟩) 1 [lessT l3 1]]:List TE).flatMap teC).toArray 87 (0,0))],[(c17,Obj.cells (([lessT l3 1]:List TE).flatMap teC).toArray 87 (0,0))],lessS l3 1,[(c13,Obj.cells (([.nd 1 0 none 0 [],sumT l1 c3 l2 c6 c8,.nd 0 0 none 0 []]:List TE).flatMap teC).toArray 87 (0,0))],[(c8,Obj.cells (([.nd 2 0 (some ⟨c3,0,none⟩) 1 [lessT l1 1],.nd 6 0 (some ⟨c6,0,none⟩) 1 [lessT l2 1]]:List TE).flatMap teC).toArray 87 (0,0))],[(c6,Obj.cells (([lessT l2 1]:List TE).flatMap teC).toArray 87 (0,0))],lessS l2 1,[(c3,Obj.cells (([lessT l1 1]:List TE).flatMap teC).toArray 87 (0,0))],lessS l1 1] (lessT l3 1):=lessT_tr (by simp)
 have q4:Tr S w0 [[(c21,Obj.cells (([f0T l1 c3 l2 c6 c8 c13,f1T l3 c17 c19]:List TE).flatMap teC).toArray 87 (0,0))],[(c19,Obj.cells (([.nd 0 10 none 0 [],.nd 6 0 (some ⟨c17,0,none⟩) 1 [lessT l3 1]]:List TE).flatMap teC).toArray 87 (0,0))],[(c17,Obj.cells (([lessT l3 1]:List TE).flatMap teC).toArray 87 (0,0))],lessS l3 1,[(c13,Obj.cells (([.nd 1 0 none 0 [],sumT l1 c3 l2 c6 c8,.nd 0 0 none 0 []]:List TE).flatMap teC).toArray 87 (0,0))],[(c8,Obj.cells (([.nd 2 0 (some ⟨c3,0,none⟩) 1 [lessT l1 1],.nd 6 0 (some ⟨c6,0,none⟩) 1 [lessT l2 1]]:List TE).flatMap teC).toArray 87 (0,0))],[(c6,Obj.cells (([lessT l2 1]:List TE).flatMap teC).toArray 87 (0,0))],lessS l2 1,[(c3,Obj.cells (([lessT l1 1]:List TE).flatMap teC).toArray 87 (0,0))],lessS l1 1] (.nd 2 0 (some ⟨c3,0,none⟩) 1 [lessT l1 1]):=tr_own (by simp) (Nat.le_refl _) (by simp) fun y hy=>by rw [List.mem_singleton.1 hy]; exact q1
 have q5:Tr S w0 [[(c21,Obj.cells (([f0T l1 c3 l2 c6 c8 c13,f1T l3 c17 c19]:List TE).flatMap teC).toArray 87 (0,0))],[(c19,Obj.cells (([.nd 0 10 none 0 [],.nd 6 0 (some ⟨c17,0,none⟩) 1 [lessT l3 1]]:List TE).flatMap teC).toArray 87 (0,0))],[(c17,Obj.cells (([lessT l3 1]:List TE).flatMap teC).toArray 87 (0,0))],lessS l3 1,[(c13,Obj.cells (([.nd 1 0 none 0 [],sumT l1 c3 l2 c6 c8,.nd 0 0 none 0 []]:List TE).flatMap teC).toArray 87 (0,0))],[(c8,Obj.cells (([.nd 2 0 (some ⟨c3,0,none⟩) 1 [lessT l1 1],.nd 6 0 (some ⟨c6,0,none⟩) 1 [lessT l2 1]]:List TE).flatMap teC).toArray 87 (0,0))],[(c6,Obj.cells (([lessT l2 1]:List TE).flatMap teC).toArray 87 (0,0))],lessS l2 1,[(c3,Obj.cells (([lessT l1 1]:List TE).flatMap teC).toArray 87 (0,0))],lessS l1 1] (.nd 6 0 (some ⟨c6,0,none⟩) 1 [lessT l2 1]):=tr_own (by simp) (Nat.le_refl _) (by simp) fun y hy=>by rw [List.mem_singleton.1 hy]; exact q2
 have q6:Tr S w0 [[(c21,Obj.cells (([f0T l1 c3 l2 c6 c8 c13,f1T l3 c17 c19]:List TE).flatMap teC).toArray 87 (0,0))],[(c19,Obj.cells (([.nd 0 10 none 0 [],.nd 6 0 (some ⟨c17,0,none⟩) 1 [lessT l3 1]]:List TE).flatMap teC).toArray 87 (0,0))],[(c17,Obj.cells (([lessT l3 1]:List TE).flatMap teC).toArray 87 (0,0))],lessS l3 1,[(c13,Obj.cells (([.nd 1 0 none 0 [],sumT l1 c3 l2 c6 c8,.nd 0 0 none 0 []]:List TE).flatMap teC).toArray 87 (0,0))],[(c8,Obj.cells (([.nd 2 0 (some ⟨c3,0,none⟩) 1 [lessT l1 1],.nd 6 0 (some ⟨c6,0,none⟩) 1 [lessT l2 1]]:List TE).flatMap teC).toArray 87 (0,0))],[(c6,Obj.cells (([lessT l2 1]:List TE).flatMap teC).toArray 87 (0,0))],lessS l2 1,[(c3,Obj.cells (([lessT l1 1]:List TE).flatMap teC).toArray 87 (0,0))],lessS l1 1] (.nd 6 0 (some ⟨c17,0,none⟩) 1 [lessT l3 1]):=tr_own (by simp) (Nat.le_refl _) (by simp) fun y hy=>by rw [List.mem_singleton.1 hy]; exact q3
 have q7:Tr S w0 [[(c21,Obj.cells (([f0T l1 c3 l2 c6 c8 c13,f1T l3 c17 c19]:List TE).flatMap teC).toArray 87 (0,0))],[(c19,Obj.cells (([.nd 0 10 none 0 [],.nd 6 0 (some ⟨c17,0,none⟩) 1 [lessT l3 1]]:List TE).flatMap teC).toArray 87 (0,0))],[(c17,Obj.cells (([lessT l3 1]:List TE).flatMap teC).toArray 87 (0,0))],lessS l3 1,[(c13,Obj.cells (([.nd 1 0 none 0 [],sumT l1 c3 l2 c6 c8,.nd 0 0 none 0 []]:List TE).flatMap teC).toArray 87 (0,0))],[(c8,Obj.cells (([.nd 2 0 (some ⟨c3,0,none⟩) 1 [lessT l1 1],.nd 6 0 (some ⟨c6,0,none⟩) 1 [lessT l2 1]]:List TE).flatMap teC).toArray 87 (0,0))],[(c6,Obj.cells (([lessT l2 1]:List TE).flatMap teC).toArray 87 (0,0))],lessS l2 1,[(c3,Obj.cells (([lessT l1 1]:List TE).flatMap teC).toArray 87 (0,0))],lessS l1 1] (sumT l1 c3 l2 c6 c8):=tr_own (by simp) (Nat.le_refl _) (by simp) fun y hy=>by
  simp only [List.mem_cons,List.not_mem_nil,or_false] at hy
  rcases hy with rfl | rfl
  ·exact q4
  ·exact q5
 simp only [List.mem_cons,List.not_mem_nil,or_false] at hx
 rcases hx with rfl | rfl
 ·exact tr_own (by simp) (Nat.le_refl _) (by simp) fun y hy=>by
   simp only [List.mem_cons,List.not_mem_nil,or_false] at hy
   rcases hy with rfl | rfl | rfl
   ·exact tr_leaf 1 0
   ·exact q7
   ·exact tr_leaf 0 0
 ·exact tr_own (by simp) (Nat.le_refl _) (by simp) fun y hy=>by
   simp only [List.mem_cons,List.not_mem_nil,or_false] at hy
   rcases hy with rfl | rfl
   ·exact tr_leaf 0 10
   ·exact q6
end Go.Proofs.YtdiacobmhkmljaaGreatDoor
/- What all laws end with. -/
namespace Go.Proofs.YtdiacobmhkmljaaGreatDoor
open Go.Sl
variable {S:Nat→Prop} {w0:World} {η:Heap}
theorem nodesL_true {a b:Option Addr} {l m:List NH} {ca cb:Nat} (hl:NL S w0 η a l) (hm:NL S w0 η b m) (hll:l.length<2 ^ 63) (e:nds l=nds m):Rt Tryz.prog 14 [.slice a l.length ca,.slice b m.length cb].toArray S w0 η (fun v η'=>v = .bool true∧η'=η):=by
 have h:=nodesL_fn (ca:=ca) (cb:=cb) hl hm hll
 rw [decide_eq_true e] at h; exact h
theorem round_true {x y:RH} {r:Rnd} (hx:RM S w0 η x) (hy:RM S w0 η y) (e:x.r=r) (e2:y.r=r) (hl:r.again.length<2 ^ 63∧r.new.length<2 ^ 63∧r.kept.length<2 ^ 63∧r.dropped.length<2 ^ 63):Rt Tryz.prog 18 [.agg (rhC x).toArray,.agg (rhC y).toArray].toArray S w0 η (fun v η'=>v = .bool true∧η'=η):=by
 have h:=round_fn hx hy (by rw [e]; exact hl)
 rw [decide_eq_true (e.trans e2.symm)] at h; exact h
theorem Equal_true {a b:Option Addr} {xs ys:List Int} {ca cb:Nat} (hx:Row S w0 η a (ints xs)) (hy:Row S w0 η b (ints ys)) (hl:xs.length<2 ^ 63) (e:xs=ys):Rt Tryz.prog 15 [.slice a xs.length ca,.slice b ys.length cb].toArray S w0 η (fun v η'=>v = .bool true∧η'=η):=by
 have h:=Equal_fn (ca:=ca) (cb:=cb) hx hy hl
 rw [decide_eq_true e] at h; exact h
theorem run_lit {F:List Ex} {cells:List Int} {top:Key} {l:List NH} {L:List Nd} (h:nds l=(runE F cells top).1) (e:runE F cells top=(L,0)):nds l=L:=by rw [h,e]
theorem play_lit {F:List Ex} {cells:List Int} {top:Key} {rs:List (List (Int × Int))} {l:List RH} {L:List Rnd} (h:l.map (·.r)=(playS F cells top rs).1) (e:playS F cells top rs=(L,0)):l.map (·.r)=L:=by rw [h,e]
theorem rnd1 {l:List RH} {r:Rnd} (h:l.map (·.r)=[r]):∃ x,l=[x]∧x.r=r:=by
 match l,h with
 | [x],h=>exact ⟨x,rfl,by simpa using h⟩
theorem rnd2 {l:List RH} {r s:Rnd} (h:l.map (·.r)=[r,s]):∃ x y,l=[x,y]∧x.r=r∧y.r=s:=by
 match l,h with
 | [x,y],h=>exact ⟨x,y,rfl,by simpa using h⟩
theorem gl1 {b1 b2:Nat} {l:List Key} {n:Nat} (hn:n=l.length):GL kC S w0 [[(b2,Obj.cells #[.slice (some ⟨b1,0,none⟩) n n] 61 (0,0))],[(b1,Obj.cells (l.flatMap kC).toArray 60 (0,0))]] (some ⟨b2,0,none⟩) [(some ⟨b1,0,none⟩,l,n)]:=by
 subst hn
 exact ⟨row_own (cs:=[.slice (some ⟨b1,0,none⟩) l.length l.length]) (e:=61) (by simp),fun p hp=>by rw [List.mem_singleton.1 hp]; exact row_own (e:=60) (by simp)⟩
theorem lit1:runE funsF [3,4,5] (0,2)=([⟨(0,0),0,[]⟩,⟨(0,1),3,[cellD 0 3,gotD (0,0) 0]⟩,⟨(0,2),7,[cellD 1 4,gotD (0,1) 3]⟩],0):=by decide +kernel
theorem lit2:playS funsF [3,4,5] (0,3) [[(1,6)]]=([⟨14,[(0,2),(0,3)],[],[(0,0),(0,1)],[]⟩],0):=by decide +kernel
theorem lit3:playS funsF [3,4,5] (1,4) [[(0,4)],[(0,4)]]=([⟨1,[(0,1),(0,2),(0,3),(1,4)],[],[(0,0)],[]⟩,⟨1,[],[],[(0,0),(0,1),(0,2),(0,3),(1,4)],[]⟩],0):=by decide +kernel
theorem lit4:playS funsF [3,4,5] (1,4) [[(0,4),(1,3)]]=([⟨1,[(0,1),(0,2)],[],[(0,0),(0,3),(1,4)],[]⟩],0):=by decide +kernel
theorem litA:askedS funsF [3,4,5] (0,3)=0:=by decide +kernel
theorem litB:askedS funsF [3,6,5] (0,3)=0:=by decide +kernel
theorem litC:traceS funsF [3,4,5] (0,3)=[⟨(0,0),0,[]⟩,⟨(0,1),3,[cellD 0 3,gotD (0,0) 0]⟩,⟨(0,2),7,[cellD 1 4,gotD (0,1) 3]⟩,⟨(0,3),12,[cellD 2 5,gotD (0,2) 7]⟩]:=by decide +kernel
theorem litD:traceS funsF [3,6,5] (0,3)=[⟨(0,0),0,[]⟩,⟨(0,1),3,[cellD 0 3,gotD (0,0) 0]⟩,⟨(0,2),9,[cellD 1 6,gotD (0,1) 3]⟩,⟨(0,3),14,[cellD 2 5,gotD (0,2) 9]⟩]:=by decide +kernel
theorem lit5:distS funsF [3,4,5] [3,6,5] (0,3)=(2,0):=by
 rw [dist_yes litA litB rfl,litC,litD]
 decide +kernel
theorem lit6:needsS funsF [3,4,5] (0,2)=([0,1],0):=by decide +kernel
theorem lit7:checkS funsF=0:=by decide +kernel
set_option maxHeartbeats 8000000 in
theorem traced_law (hT : Tabs S w0) :
  Rt Tryz.prog 7 [].toArray S w0 η (fun v _=>v = .bool true):=by
 have hF:=open_wide
 refine Rt.of (fn:=Tryz.f7) Tryz.func7 rfl rfl ?_
 refine T.seq ?_
 refine T.region ?_
 refine TL.assign hF rfl rfl ?_
 refine TL.nil ?_
 refine TQ.then_n ?_
 refine T.seq ?_
 refine T.region ?_
 have hb:=Back.refl S w0
 refine TL.call hF functions_fn rfl rfl ?_
 rintro _ _ ⟨fa,fc,fl,segs,rfl,hfs,hfx,rfl⟩
 have hfl:fl.length<9223372036854775808:=by have:=congrArg List.length hfx; rw [List.length_map] at this; rw [this]; decide
 refine TL.freeze (segs) rfl (fun S1 w1 hz1=>?_)
 replace hb:=hb.frz hz1
 replace hT:=hT.old hz1
 replace hfs:=hfs.frz hz1
 refine TL.buildSlice hF rfl (cs:=#[.int .i64 3,.int .i64 4,.int .i64 5]) (e:=3) (fun w=>by kernel_rfl) rfl (fun b17=>?_)
 refine TL.assign hF rfl rfl ?_
 refine TL.assign hF rfl rfl ?_
 refine TL.nil ?_
 refine TQ.then_n ?_
 refine T.seq ?_
 refine T.region ?_
 refine TL.move hF rfl rfl ?_
 refine TL.move hF rfl rfl ?_
 have h17:Row S1 w1 [[(b17,Obj.cells #[.int .i64 3,.int .i64 4,.int .i64 5] 3 (0,0))]] (some ⟨b17,0,none⟩) (ints [3,4,5]):=row_own (cs:=[.int .i64 3,.int .i64 4,.int .i64 5]) (e:=3) (by simp)
 refine TL.freeze ([[(b17,Obj.cells #[.int .i64 3,.int .i64 4,.int .i64 5] 3 (0,0))]]) rfl (fun S2 w2 hz2=>?_)
 replace hb:=hb.frz hz2
 replace hT:=hT.old hz2
 replace hfs:=hfs.old hz2
 replace h17:=h17.frz hz2
 refine TL.callV hF (at_fn 0 2) rfl rfl ?_
 refine TL.call hF (Run_fn (cells:=[3,4,5]) (cc:=3) (top:=(0,2)) hT hfs hfl h17 (by decide)) rfl rfl ?_
 rintro _ _ ⟨a3,c3,l3,segs,rfl,hn3,hl3,hc3,rfl⟩
 have e3:runE (fl.map TE.ex) [3,4,5] (0,2)=([⟨(0,0),0,[]⟩,⟨(0,1),3,[cellD 0 3,gotD (0,0) 0]⟩,⟨(0,2),7,[cellD 1 4,gotD (0,1) 3]⟩],0):=by rw [hfx]; exact lit1
 replace hn3:=run_lit hn3 e3
 rw [e3]
 refine TL.freeze (segs) rfl (fun S3 w3 hz3=>?_)
 replace hb:=hb.frz hz3
 replace hT:=hT.old hz3
 replace hfs:=hfs.old hz3
 replace h17:=h17.old hz3
 replace hl3:=hl3.frz hz3
 refine TL.move hF rfl rfl ?_
 refine TL.extract hF rfl rfl rfl ?_
 refine TL.extract hF rfl rfl rfl ?_
 refine TL.assign hF rfl rfl ?_
 refine TL.assign hF rfl rfl ?_
 refine TL.nil ?_
 refine TQ.then_n ?_
 refine T.seq ?_
 refine T.region ?_
 refine TL.callV hF (at_fn 0 0) rfl rfl ?_
 refine TL.build hF rfl (r:=.agg (nhC ⟨⟨(0,0),0,[]⟩,none,0⟩).toArray) (fun w=>by kernel_rfl) rfl ?_
 refine TL.callV hF (at_fn 0 1) rfl rfl ?_
 refine TL.callV hF (cell_fn 0 3) rfl rfl ?_
 refine TL.callV hF (at_fn 0 0) rfl rfl ?_
 refine TL.callV hF (got_fn (0,0) 0) rfl rfl ?_
 refine TL.buildSlice hF rfl (cs:=(([cellD 0 3,gotD (0,0) 0]:List Dp).flatMap dpC).toArray) (e:=56) (fun w=>by kernel_rfl) rfl (fun b31=>?_)
 refine TL.build hF rfl (r:=.agg (nhC ⟨⟨(0,1),3,[cellD 0 3,gotD (0,0) 0]⟩,some ⟨b31,0,none⟩,2⟩).toArray) (fun w=>by kernel_rfl) rfl ?_
 refine TL.callV hF (at_fn 0 2) rfl rfl ?_
 refine TL.callV hF (cell_fn 1 4) rfl rfl ?_
 refine TL.callV hF (at_fn 0 1) rfl rfl ?_
 refine TL.callV hF (got_fn (0,1) 3) rfl rfl ?_
 refine TL.buildSlice hF rfl (cs:=(([cellD 1 4,gotD (0,1) 3]:List Dp).flatMap dpC).toArray) (e:=56) (fun w=>by kernel_rfl) rfl (fun b37=>?_)
 refine TL.build hF rfl (r:=.agg (nhC ⟨⟨(0,2),7,[cellD 1 4,gotD (0,1) 3]⟩,some ⟨b37,0,none⟩,2⟩).toArray) (fun w=>by kernel_rfl) rfl ?_
 refine TL.buildSlice hF rfl (cs:=(([⟨⟨(0,0),0,[]⟩,none,0⟩,⟨⟨(0,1),3,[cellD 0 3,gotD (0,0) 0]⟩,some ⟨b31,0,none⟩,2⟩,⟨⟨(0,2),7,[cellD 1 4,gotD (0,1) 3]⟩,some ⟨b37,0,none⟩,2⟩]:List NH).flatMap nhC).toArray) (e:=54) (fun w=>by kernel_rfl) rfl (fun b39=>?_)
 refine TL.assign hF rfl rfl ?_
 refine TL.nil ?_
 refine TQ.then_n ?_
 refine T.seq ?_
 refine T.region ?_
 refine TL.move hF rfl rfl ?_
 refine TL.move hF rfl rfl ?_
 have hw:NL S3 w3 [[(b39,Obj.cells (([⟨⟨(0,0),0,[]⟩,none,0⟩,⟨⟨(0,1),3,[cellD 0 3,gotD (0,0) 0]⟩,some ⟨b31,0,none⟩,2⟩,⟨⟨(0,2),7,[cellD 1 4,gotD (0,1) 3]⟩,some ⟨b37,0,none⟩,2⟩]:List NH).flatMap nhC).toArray 54 (0,0))],[(b37,Obj.cells (([cellD 1 4,gotD (0,1) 3]:List Dp).flatMap dpC).toArray 56 (0,0))],[(b31,Obj.cells (([cellD 0 3,gotD (0,0) 0]:List Dp).flatMap dpC).toArray 56 (0,0))]] (some ⟨b39,0,none⟩) ([⟨⟨(0,0),0,[]⟩,none,0⟩,⟨⟨(0,1),3,[cellD 0 3,gotD (0,0) 0]⟩,some ⟨b31,0,none⟩,2⟩,⟨⟨(0,2),7,[cellD 1 4,gotD (0,1) 3]⟩,some ⟨b37,0,none⟩,2⟩]:List NH):=⟨row_own (e:=54) (by simp),fun x hx=>by
  simp only [List.mem_cons,List.not_mem_nil,or_false] at hx
  rcases hx with rfl | rfl | rfl
  ·exact ⟨Row.none,Nat.le_refl _,(show 0<4294967296 by decide)⟩
  ·exact ⟨row_own (e:=56) (by simp),Nat.le_refl _,(show 2<4294967296 by decide)⟩
  ·exact ⟨row_own (e:=56) (by simp),Nat.le_refl _,(show 2<4294967296 by decide)⟩⟩
 refine TL.freeze ([[(b39,Obj.cells (([⟨⟨(0,0),0,[]⟩,none,0⟩,⟨⟨(0,1),3,[cellD 0 3,gotD (0,0) 0]⟩,some ⟨b31,0,none⟩,2⟩,⟨⟨(0,2),7,[cellD 1 4,gotD (0,1) 3]⟩,some ⟨b37,0,none⟩,2⟩]:List NH).flatMap nhC).toArray 54 (0,0))],[(b37,Obj.cells (([cellD 1 4,gotD (0,1) 3]:List Dp).flatMap dpC).toArray 56 (0,0))],[(b31,Obj.cells (([cellD 0 3,gotD (0,0) 0]:List Dp).flatMap dpC).toArray 56 (0,0))]]) rfl (fun S4 w4 hz4=>?_)
 replace hb:=hb.frz hz4
 replace hT:=hT.old hz4
 replace hfs:=hfs.old hz4
 replace h17:=h17.old hz4
 replace hl3:=hl3.old hz4
 replace hw:=hw.frz hz4
 refine TL.callV hF (at_fn 0 3) rfl rfl ?_
 refine TL.build hF rfl (r:=kV (1,6)) (fun w=>by kernel_rfl) rfl ?_
 refine TL.buildSlice hF rfl (cs:=(([(1,6)]:List Key).flatMap kC).toArray) (e:=60) (fun w=>by kernel_rfl) rfl (fun b45=>?_)
 refine TL.buildSlice hF rfl (cs:=#[.slice (some ⟨b45,0,none⟩) 1 1]) (e:=61) (fun w=>by kernel_rfl) rfl (fun b46=>?_)
 have hg6:GL kC S4 w4 [[(b46,Obj.cells #[.slice (some ⟨b45,0,none⟩) 1 1] 61 (0,0))],[(b45,Obj.cells (([(1,6)]:List Key).flatMap kC).toArray 60 (0,0))]] (some ⟨b46,0,none⟩) [(some ⟨b45,0,none⟩,[(1,6)],1)]:=gl1 rfl
 refine TL.freeze ([[(b46,Obj.cells #[.slice (some ⟨b45,0,none⟩) 1 1] 61 (0,0))],[(b45,Obj.cells (([(1,6)]:List Key).flatMap kC).toArray 60 (0,0))]]) rfl (fun S5 w5 hz5=>?_)
 replace hb:=hb.frz hz5
 replace hT:=hT.old hz5
 replace hfs:=hfs.old hz5
 replace h17:=h17.old hz5
 replace hl3:=hl3.old hz5
 replace hw:=hw.old hz5
 replace hg6:=hg6.frz hz5
 refine TL.call hF (Play_fn (cells:=[3,4,5]) (cc:=3) (top:=(0,3)) (ps:=[(some ⟨b45,0,none⟩,[(1,6)],1)]) hT hfs hfl h17 (by decide) hg6 (by simp) (by simp)) rfl rfl ?_
 rintro _ _ ⟨a6,c6,l6,segs,rfl,hn6,hl6,hc6,rfl⟩
 have e6:playS (fl.map TE.ex) [3,4,5] (0,3) (erounds [(some ⟨b45,0,none⟩,[(1,6)],1)])=([⟨14,[(0,2),(0,3)],[],[(0,0),(0,1)],[]⟩],0):=by rw [hfx]; exact lit2
 replace hn6:=play_lit hn6 e6
 rw [e6]
 obtain ⟨x6,rfl,hx6⟩:=rnd1 hn6
 refine TL.freeze (segs) rfl (fun S6 w6 hz6=>?_)
 replace hb:=hb.frz hz6
 replace hT:=hT.old hz6
 replace hfs:=hfs.old hz6
 replace h17:=h17.old hz6
 replace hl3:=hl3.old hz6
 replace hw:=hw.old hz6
 replace hg6:=hg6.old hz6
 replace hl6:=hl6.frz hz6
 refine TL.move hF rfl rfl ?_
 refine TL.extract hF rfl rfl rfl ?_
 refine TL.extract hF rfl rfl rfl ?_
 refine TL.assign hF rfl rfl ?_
 refine TL.assign hF rfl rfl ?_
 refine TL.nil ?_
 refine TQ.then_n ?_
 refine T.seq ?_
 refine T.region ?_
 refine TL.move hF rfl rfl ?_
 refine TL.move hF rfl rfl ?_
 refine TL.callV hF (at_fn 1 4) rfl rfl ?_
 refine TL.build hF rfl (r:=kV (0,4)) (fun w=>by kernel_rfl) rfl ?_
 refine TL.buildSlice hF rfl (cs:=(([(0,4)]:List Key).flatMap kC).toArray) (e:=60) (fun w=>by kernel_rfl) rfl (fun b55=>?_)
 refine TL.build hF rfl (r:=kV (0,4)) (fun w=>by kernel_rfl) rfl ?_
 refine TL.buildSlice hF rfl (cs:=(([(0,4)]:List Key).flatMap kC).toArray) (e:=60) (fun w=>by kernel_rfl) rfl (fun b57=>?_)
 refine TL.buildSlice hF rfl (cs:=#[.slice (some ⟨b55,0,none⟩) 1 1,.slice (some ⟨b57,0,none⟩) 1 1]) (e:=61) (fun w=>by kernel_rfl) rfl (fun b58=>?_)
 have hg8:GL kC S6 w6 [[(b58,Obj.cells #[.slice (some ⟨b55,0,none⟩) 1 1,.slice (some ⟨b57,0,none⟩) 1 1] 61 (0,0))],[(b57,Obj.cells (([(0,4)]:List Key).flatMap kC).toArray 60 (0,0))],[(b55,Obj.cells (([(0,4)]:List Key).flatMap kC).toArray 60 (0,0))]] (some ⟨b58,0,none⟩) [(some ⟨b55,0,none⟩,[(0,4)],1),(some ⟨b57,0,none⟩,[(0,4)],1)]:=⟨row_own (cs:=[.slice (some ⟨b55,0,none⟩) 1 1,.slice (some ⟨b57,0,none⟩) 1 1]) (e:=61) (by simp),fun p hp=>by
  simp only [List.mem_cons,List.not_mem_nil,or_false] at hp
  rcases hp with rfl | rfl
  ·exact row_own (e:=60) (by simp)
  ·exact row_own (e:=60) (by simp)⟩
 refine TL.freeze ([[(b58,Obj.cells #[.slice (some ⟨b55,0,none⟩) 1 1,.slice (some ⟨b57,0,none⟩) 1 1] 61 (0,0))],[(b57,Obj.cells (([(0,4)]:List Key).flatMap kC).toArray 60 (0,0))],[(b55,Obj.cells (([(0,4)]:List Key).flatMap kC).toArray 60 (0,0))]]) rfl (fun S7 w7 hz7=>?_)
 replace hb:=hb.frz hz7
 replace hT:=hT.old hz7
 replace hfs:=hfs.old hz7
 replace h17:=h17.old hz7
 replace hl3:=hl3.old hz7
 replace hw:=hw.old hz7
 replace hl6:=hl6.old hz7
 replace hg8:=hg8.frz hz7
 refine TL.call hF (Play_fn (cells:=[3,4,5]) (cc:=3) (top:=(1,4)) (ps:=[(some ⟨b55,0,none⟩,[(0,4)],1),(some ⟨b57,0,none⟩,[(0,4)],1)]) hT hfs hfl h17 (by decide) hg8 (by simp) (by simp)) rfl rfl ?_
 rintro _ _ ⟨a8,c8,l8,segs,rfl,hn8,hl8,hc8,rfl⟩
 have e8:playS (fl.map TE.ex) [3,4,5] (1,4) (erounds [(some ⟨b55,0,none⟩,[(0,4)],1),(some ⟨b57,0,none⟩,[(0,4)],1)])=([⟨1,[(0,1),(0,2),(0,3),(1,4)],[],[(0,0)],[]⟩,⟨1,[],[],[(0,0),(0,1),(0,2),(0,3),(1,4)],[]⟩],0):=by rw [hfx]; exact lit3
 replace hn8:=play_lit hn8 e8
 rw [e8]
 obtain ⟨x8,y8,rfl,hx8,hy8⟩:=rnd2 hn8
 refine TL.freeze (segs) rfl (fun S8 w8 hz8=>?_)
 replace hb:=hb.frz hz8
 replace hT:=hT.old hz8
 replace hfs:=hfs.old hz8
 replace h17:=h17.old hz8
 replace hl3:=hl3.old hz8
 replace hw:=hw.old hz8
 replace hl6:=hl6.old hz8
 replace hg8:=hg8.old hz8
 replace hl8:=hl8.frz hz8
 refine TL.move hF rfl rfl ?_
 refine TL.extract hF rfl rfl rfl ?_
 refine TL.extract hF rfl rfl rfl ?_
 refine TL.assign hF rfl rfl ?_
 refine TL.assign hF rfl rfl ?_
 refine TL.nil ?_
 refine TQ.then_n ?_
 refine T.seq ?_
 refine T.region ?_
 refine TL.move hF rfl rfl ?_
 refine TL.move hF rfl rfl ?_
 refine TL.callV hF (at_fn 1 4) rfl rfl ?_
 refine TL.build hF rfl (r:=kV (0,4)) (fun w=>by kernel_rfl) rfl ?_
 refine TL.build hF rfl (r:=kV (1,3)) (fun w=>by kernel_rfl) rfl ?_
 refine TL.buildSlice hF rfl (cs:=(([(0,4),(1,3)]:List Key).flatMap kC).toArray) (e:=60) (fun w=>by kernel_rfl) rfl (fun b68=>?_)
 refine TL.buildSlice hF rfl (cs:=#[.slice (some ⟨b68,0,none⟩) 2 2]) (e:=61) (fun w=>by kernel_rfl) rfl (fun b69=>?_)
 have hg10:GL kC S8 w8 [[(b69,Obj.cells #[.slice (some ⟨b68,0,none⟩) 2 2] 61 (0,0))],[(b68,Obj.cells (([(0,4),(1,3)]:List Key).flatMap kC).toArray 60 (0,0))]] (some ⟨b69,0,none⟩) [(some ⟨b68,0,none⟩,[(0,4),(1,3)],2)]:=gl1 rfl
 refine TL.freeze ([[(b69,Obj.cells #[.slice (some ⟨b68,0,none⟩) 2 2] 61 (0,0))],[(b68,Obj.cells (([(0,4),(1,3)]:List Key).flatMap kC).toArray 60 (0,0))]]) rfl (fun S9 w9 hz9=>?_)
 replace hb:=hb.frz hz9
 replace hT:=hT.old hz9
 replace hfs:=hfs.old hz9
 replace h17:=h17.old hz9
 replace hl3:=hl3.old hz9
 replace hw:=hw.old hz9
 replace hl6:=hl6.old hz9
 replace hl8:=hl8.old hz9
 replace hg10:=hg10.frz hz9
 refine TL.call hF (Play_fn (cells:=[3,4,5]) (cc:=3) (top:=(1,4)) (ps:=[(some ⟨b68,0,none⟩,[(0,4),(1,3)],2)]) hT hfs hfl h17 (by decide) hg10 (by simp) (by simp)) rfl rfl ?_
 rintro _ _ ⟨a10,c10,l10,segs,rfl,hn10,hl10,hc10,rfl⟩
 have e10:playS (fl.map TE.ex) [3,4,5] (1,4) (erounds [(some ⟨b68,0,none⟩,[(0,4),(1,3)],2)])=([⟨1,[(0,1),(0,2)],[],[(0,0),(0,3),(1,4)],[]⟩],0):=by rw [hfx]; exact lit4
 replace hn10:=play_lit hn10 e10
 rw [e10]
 obtain ⟨x10,rfl,hx10⟩:=rnd1 hn10
 refine TL.freeze (segs) rfl (fun S10 w10 hz10=>?_)
 replace hb:=hb.frz hz10
 replace hT:=hT.old hz10
 replace hfs:=hfs.old hz10
 replace h17:=h17.old hz10
 replace hl3:=hl3.old hz10
 replace hw:=hw.old hz10
 replace hl6:=hl6.old hz10
 replace hl8:=hl8.old hz10
 replace hg10:=hg10.old hz10
 replace hl10:=hl10.frz hz10
 refine TL.move hF rfl rfl ?_
 refine TL.extract hF rfl rfl rfl ?_
 refine TL.extract hF rfl rfl rfl ?_
 refine TL.assign hF rfl rfl ?_
 refine TL.assign hF rfl rfl ?_
 refine TL.nil ?_
 refine TQ.then_n ?_
 refine T.seq ?_
 refine T.region ?_
 refine TL.move hF rfl rfl ?_
 refine TL.move hF rfl rfl ?_
 refine TL.buildSlice hF rfl (cs:=#[.int .i64 3,.int .i64 6,.int .i64 5]) (e:=3) (fun w=>by kernel_rfl) rfl (fun b76=>?_)
 refine TL.callV hF (at_fn 0 3) rfl rfl ?_
 have h76:Row S10 w10 [[(b76,Obj.cells #[.int .i64 3,.int .i64 6,.int .i64 5] 3 (0,0))]] (some ⟨b76,0,none⟩) (ints [3,6,5]):=row_own (cs:=[.int .i64 3,.int .i64 6,.int .i64 5]) (e:=3) (by simp)
 refine TL.freeze ([[(b76,Obj.cells #[.int .i64 3,.int .i64 6,.int .i64 5] 3 (0,0))]]) rfl (fun S11 w11 hz11=>?_)
 replace hb:=hb.frz hz11
 replace hT:=hT.old hz11
 replace hfs:=hfs.old hz11
 replace h17:=h17.old hz11
 replace hl3:=hl3.old hz11
 replace hw:=hw.old hz11
 replace hl6:=hl6.old hz11
 replace hl8:=hl8.old hz11
 replace hl10:=hl10.old hz11
 replace h76:=h76.frz hz11
 have e12:distS (fl.map TE.ex) [3,4,5] [3,6,5] (0,3)=(2,0):=by rw [hfx]; exact lit5
 refine TL.call hF (Distance_fn (cells:=[3,4,5]) (cc:=3) (others:=[3,6,5]) (dc:=3) (top:=(0,3)) hT hfs hfl h17 (by decide) h76 (by decide)) rfl rfl ?_
 rintro _ _ ⟨rfl,rfl⟩
 rw [e12]
 refine TL.move hF rfl rfl ?_
 refine TL.extract hF rfl rfl rfl ?_
 refine TL.extract hF rfl rfl rfl ?_
 refine TL.assign hF rfl rfl ?_
 refine TL.assign hF rfl rfl ?_
 refine TL.nil ?_
 refine TQ.then_n ?_
 refine T.seq ?_
 refine T.region ?_
 refine TL.move hF rfl rfl ?_
 refine TL.move hF rfl rfl ?_
 refine TL.callV hF (at_fn 0 2) rfl rfl ?_
 have e14:needsS (fl.map TE.ex) [3,4,5] (0,2)=([0,1],0):=by rw [hfx]; exact lit6
 refine TL.call hF (Needs_fn (cells:=[3,4,5]) (cc:=3) (top:=(0,2)) hT hfs hfl h17 (by decide)) rfl rfl ?_
 rintro _ _ ⟨a14,c14,segs,rfl,h14,rfl⟩
 rw [e14] at h14 ⊢
 refine TL.freeze (segs) rfl (fun S12 w12 hz12=>?_)
 replace hb:=hb.frz hz12
 replace hT:=hT.old hz12
 replace hfs:=hfs.old hz12
 replace h17:=h17.old hz12
 replace hl3:=hl3.old hz12
 replace hw:=hw.old hz12
 replace hl6:=hl6.old hz12
 replace hl8:=hl8.old hz12
 replace hl10:=hl10.old hz12
 replace h76:=h76.old hz12
 replace h14:=h14.frz hz12
 refine TL.move hF rfl rfl ?_
 refine TL.extract hF rfl rfl rfl ?_
 refine TL.extract hF rfl rfl rfl ?_
 refine TL.assign hF rfl rfl ?_
 refine TL.assign hF rfl rfl ?_
 refine TL.nil ?_
 refine TQ.then_n ?_
 refine T.seq ?_
 refine T.seq ?_
 refine T.region ?_
 refine TL.move hF rfl rfl ?_
 refine TL.bin hF rfl rfl rfl rfl ?_
 refine TL.move hF rfl rfl ?_
 refine TL.on rfl rfl rfl rfl ?_
 refine TL.move hF rfl rfl ?_
 refine TL.on rfl rfl rfl rfl ?_
 refine TL.bin hF rfl rfl rfl rfl ?_
 refine TL.pickF hF rfl rfl rfl rfl ?_
 refine TL.move hF rfl rfl ?_
 refine TL.on rfl rfl rfl rfl ?_
 refine TL.move hF rfl rfl ?_
 refine TL.on rfl rfl rfl rfl ?_
 refine TL.bin hF rfl rfl rfl rfl ?_
 refine TL.pickF hF rfl rfl rfl rfl ?_
 refine TL.move hF rfl rfl ?_
 refine TL.on rfl rfl rfl rfl ?_
 refine TL.move hF rfl rfl ?_
 refine TL.on rfl rfl rfl rfl ?_
 refine TL.bin hF rfl rfl rfl rfl ?_
 refine TL.pickF hF rfl rfl rfl rfl ?_
 refine TL.move hF rfl rfl ?_
 refine TL.on rfl rfl rfl rfl ?_
 refine TL.move hF rfl rfl ?_
 refine TL.on rfl rfl rfl rfl ?_
 refine TL.bin hF rfl rfl rfl rfl ?_
 refine TL.pickF hF rfl rfl rfl rfl ?_
 refine TL.move hF rfl rfl ?_
 refine TL.on rfl rfl rfl rfl ?_
 refine TL.move hF rfl rfl ?_
 refine TL.on rfl rfl rfl rfl ?_
 refine TL.bin hF rfl rfl rfl rfl ?_
 refine TL.pickF hF rfl rfl rfl rfl ?_
 refine TL.move hF rfl rfl ?_
 refine TL.on rfl rfl rfl rfl ?_
 refine TL.move hF rfl rfl ?_
 refine TL.on rfl rfl rfl rfl ?_
 refine TL.move hF rfl rfl ?_
 refine TL.on rfl rfl rfl rfl ?_
 refine TL.callV hF (nodesL_true hl3.ro hw.ro (by have:=congrArg List.length hn3; rw [nds_len] at this; rw [this]; decide) (hn3.trans rfl)) rfl rfl ?_
 refine TL.on rfl rfl rfl rfl ?_
 refine TL.not hF rfl rfl ?_
 refine TL.pickF hF rfl rfl rfl rfl ?_
 refine TL.move hF rfl rfl ?_
 refine TL.on rfl rfl rfl rfl ?_
 refine TL.move hF rfl rfl ?_
 refine TL.on rfl rfl rfl rfl ?_
 refine TL.len hF rfl rfl ?_
 refine TL.on rfl rfl rfl rfl ?_
 refine TL.bin hF rfl rfl rfl rfl ?_
 refine TL.pickF hF rfl rfl rfl rfl ?_
 refine TL.move hF rfl rfl ?_
 refine TL.on rfl rfl rfl rfl ?_
 refine TL.move hF rfl rfl ?_
 refine TL.on rfl rfl rfl rfl ?_
 refine TL.len hF rfl rfl ?_
 refine TL.on rfl rfl rfl rfl ?_
 refine TL.bin hF rfl rfl rfl rfl ?_
 refine TL.pickF hF rfl rfl rfl rfl ?_
 refine TL.move hF rfl rfl ?_
 refine TL.on rfl rfl rfl rfl ?_
 refine TL.move hF rfl rfl ?_
 refine TL.on rfl rfl rfl rfl ?_
 refine TL.len hF rfl rfl ?_
 refine TL.on rfl rfl rfl rfl ?_
 refine TL.bin hF rfl rfl rfl rfl ?_
 refine TL.pickF hF rfl rfl rfl rfl ?_
 refine TL.move hF rfl rfl ?_
 refine TL.on rfl rfl rfl rfl ?_
 refine TL.move hF rfl rfl ?_
 refine TL.on rfl rfl rfl rfl ?_
 refine TL.bin hF rfl rfl rfl rfl ?_
 refine TL.pickF hF rfl rfl rfl rfl ?_
 refine TL.move hF rfl rfl ?_
 refine TL.on rfl rfl rfl rfl ?_
 refine TL.move hF rfl rfl ?_
 refine TL.on rfl rfl rfl rfl ?_
 refine TL.buildSlice hF rfl (cs:=#[.int .i64 0,.int .i64 1]) (e:=3) (fun w=>by kernel_rfl) rfl (fun b137=>?_)
 refine TL.on rfl rfl rfl rfl ?_
 refine TL.callV hF (Equal_true (xs:=[0,1]) (ys:=[0,1]) h14.ro (row_own (cs:=[.int .i64 0,.int .i64 1]) (e:=3) (by simp)) (by decide) rfl) rfl rfl ?_
 refine TL.on rfl rfl rfl rfl ?_
 refine TL.not hF rfl rfl ?_
 refine TL.pickF hF rfl rfl rfl rfl ?_
 refine TL.move hF rfl rfl ?_
 refine TL.on rfl rfl rfl rfl ?_
 refine TL.move hF rfl rfl ?_
 refine TL.on rfl rfl rfl rfl ?_
 have eck:checkS (fl.map TE.ex)=0:=by rw [hfx]; exact lit7
 refine TL.call hF (Check_fn (c:=fc) hT hfs hfl) rfl rfl ?_
 rintro _ _ ⟨rfl,rfl⟩
 rw [eck]
 refine TL.on rfl rfl rfl rfl ?_
 refine TL.bin hF rfl rfl rfl rfl ?_
 refine TL.pickF hF rfl rfl rfl rfl ?_
 refine TL.nil ?_
 refine TQ.then_n ?_
 refine T.cond_f rfl rfl ?_
 refine T.skip ?_
 refine TQ.then_n ?_
 refine T.seq ?_
 refine T.drawH 64 mixed ?_
 refine DH.pure (i:=0) [(6,_,none)] rfl rfl rfl rfl ⟨⟨rfl,by kernel_rfl⟩,trivial⟩ (fun _ ext=>TL.move hF rfl rfl TL.fin) ?_
 refine DH.pure (i:=1) [(146,_,some 0)] rfl rfl rfl rfl ⟨⟨rfl,rfl,rfl⟩,trivial⟩ (fun _ ext=>TL.indexAddr hF rfl rfl (hl6.ad (i:=0) (show 0<1 by decide)) (by decide) (show (0:Int)<((1:Nat):Int) by decide) rfl TL.fin) ?_
 refine DH.read (i:=2) [(147,_,some 1)] rfl rfl rfl rfl ⟨⟨rfl,rfl,rfl⟩,trivial⟩ (fun ext=>TL.loadA hF (rhC x6) rfl rfl (hl6.ro.atA (i:=0) (show 0<1 by decide)) rfl TL.fin) ?_
 refine DH.pure (i:=3) [] rfl rfl rfl rfl trivial (fun _ ext=>TL.callV hF (at_fn 0 2) rfl rfl TL.fin) ?_
 refine DH.pure (i:=4) [] rfl rfl rfl rfl trivial (fun _ ext=>TL.callV hF (at_fn 0 3) rfl rfl TL.fin) ?_
 refine DH.pure (i:=6) [] rfl rfl rfl rfl trivial (fun _ ext=>TL.callV hF (at_fn 0 0) rfl rfl TL.fin) ?_
 refine DH.pure (i:=7) [] rfl rfl rfl rfl trivial (fun _ ext=>TL.callV hF (at_fn 0 1) rfl rfl TL.fin) ?_
 refine DH.k2 (by kernel_rfl) (by kernel_rfl) (by kernel_rfl) (by kernel_rfl) (HBK.mk (h:=5) [2] [(149,_,some 3),(150,_,some 4)] rfl rfl rfl ⟨⟨rfl,rfl,rfl⟩,⟨rfl,rfl,rfl⟩,trivial⟩ (by kernel_rfl) (fun ext=>?_)) (HBK.mk (h:=8) [2] [(152,_,some 6),(153,_,some 7)] rfl rfl rfl ⟨⟨rfl,rfl,rfl⟩,⟨rfl,rfl,rfl⟩,trivial⟩ (by kernel_rfl) (fun ext=>?_))
 ·refine TL.buildSlice hF rfl (cs:=(([(0,2),(0,3)]:List Key).flatMap kC).toArray) (e:=25) (fun w=>by kernel_rfl) rfl (fun b151=>?_)
  refine TL.finK ⟨⟨_,rfl,_,_,[(147,_,some 1)],rfl,rfl,⟨⟨rfl,rfl,rfl⟩,trivial⟩,fun ext=>TL.loadA hF (rhC x6) rfl rfl (hl6.ro.atA (i:=0) (show 0<1 by decide)) rfl TL.fin⟩,trivial⟩ ?_
  refine DH.k1 (by kernel_rfl) (by kernel_rfl) (by kernel_rfl) (by kernel_rfl) (HBK.mk (h:=8) [2] [(152,_,some 6),(153,_,some 7)] rfl rfl rfl ⟨⟨rfl,rfl,rfl⟩,⟨rfl,rfl,rfl⟩,trivial⟩ (by kernel_rfl) (fun ext=>?_))
  refine TL.buildSlice hF rfl (cs:=(([(0,0),(0,1)]:List Key).flatMap kC).toArray) (e:=25) (fun w=>by kernel_rfl) rfl (fun b154=>?_)
  refine TL.finK ⟨⟨_,rfl,_,_,[(147,_,some 1)],rfl,rfl,⟨⟨rfl,rfl,rfl⟩,trivial⟩,fun ext=>TL.loadA hF (rhC x6) rfl rfl (hl6.ro.atA (i:=0) (show 0<1 by decide)) rfl TL.fin⟩,trivial⟩ ?_
  refine DH.pure (i:=9) [(151,_,some 5),(154,_,some 8)] rfl rfl rfl rfl ⟨⟨rfl,rfl,rfl⟩,⟨rfl,rfl,rfl⟩,trivial⟩ (fun _ ext=>TL.build hF rfl (r:=.agg (rhC ⟨⟨14,[(0,2),(0,3)],[],[(0,0),(0,1)],[]⟩,some ⟨b151,0,none⟩,2,none,0,some ⟨b154,0,none⟩,2,none,0⟩).toArray) (fun w=>by kernel_rfl) rfl TL.fin) ?_
  refine DH.read (i:=10) [(148,_,some 2),(155,_,some 9)] rfl rfl rfl rfl ⟨⟨rfl,rfl,rfl⟩,⟨rfl,rfl,rfl⟩,trivial⟩ (fun ext=>TL.callV hF (round_true (r:=⟨14,[(0,2),(0,3)],[],[(0,0),(0,1)],[]⟩) ((hl6.item _ (by simp)).up (by simp)) (y:=⟨⟨14,[(0,2),(0,3)],[],[(0,0),(0,1)],[]⟩,some ⟨b151,0,none⟩,2,none,0,some ⟨b154,0,none⟩,2,none,0⟩) ⟨(row_own (b:=b151) (cs:=([(0,2),(0,3)]:List Key).flatMap kC) (e:=25) (by simp)),Row.none,(row_own (b:=b154) (cs:=([(0,0),(0,1)]:List Key).flatMap kC) (e:=25) (by simp)),Row.none⟩ hx6 rfl (by decide)) rfl rfl TL.fin) ?_
  refine DH.pure (i:=11) [(156,_,some 10)] rfl rfl rfl rfl ⟨⟨rfl,rfl,rfl⟩,trivial⟩ (fun _ ext=>TL.move hF rfl rfl TL.fin) ?_
  refine DH.pure (i:=12) [(8,_,none),(157,_,some 11)] rfl rfl rfl rfl ⟨⟨rfl,by kernel_rfl⟩,⟨rfl,rfl,rfl⟩,trivial⟩ (fun _ ext=>TL.on rfl rfl rfl rfl <| TL.move hF rfl rfl TL.fin) ?_
  refine DH.pure (i:=13) [(158,_,some 12),(157,_,some 11)] rfl rfl rfl rfl ⟨⟨rfl,rfl,rfl⟩,⟨rfl,rfl,rfl⟩,trivial⟩ (fun _ ext=>TL.on rfl rfl rfl rfl <| TL.indexAddr hF rfl rfl (hl8.ad (i:=0) (show 0<2 by decide)) (by decide) (show (0:Int)<((2:Nat):Int) by decide) rfl TL.fin) ?_
  refine DH.read (i:=14) [(159,_,some 13),(157,_,some 11)] rfl rfl rfl rfl ⟨⟨rfl,rfl,rfl⟩,⟨rfl,rfl,rfl⟩,trivial⟩ (fun ext=>TL.on rfl rfl rfl rfl <| TL.loadA hF (rhC x8) rfl rfl (hl8.ro.atA (i:=0) (show 0<2 by decide)) rfl TL.fin) ?_
  refine DH.pure (i:=15) [(157,_,some 11)] rfl rfl rfl rfl ⟨⟨rfl,rfl,rfl⟩,trivial⟩ (fun _ ext=>TL.on rfl rfl rfl rfl <| TL.callV hF (at_fn 0 1) rfl rfl TL.fin) ?_
  refine DH.pure (i:=16) [(157,_,some 11)] rfl rfl rfl rfl ⟨⟨rfl,rfl,rfl⟩,trivial⟩ (fun _ ext=>TL.on rfl rfl rfl rfl <| TL.callV hF (at_fn 0 2) rfl rfl TL.fin) ?_
  refine DH.pure (i:=17) [(157,_,some 11)] rfl rfl rfl rfl ⟨⟨rfl,rfl,rfl⟩,trivial⟩ (fun _ ext=>TL.on rfl rfl rfl rfl <| TL.callV hF (at_fn 0 3) rfl rfl TL.fin) ?_
  refine DH.pure (i:=18) [(157,_,some 11)] rfl rfl rfl rfl ⟨⟨rfl,rfl,rfl⟩,trivial⟩ (fun _ ext=>TL.on rfl rfl rfl rfl <| TL.callV hF (at_fn 1 4) rfl rfl TL.fin) ?_
  refine DH.pure (i:=20) [(157,_,some 11)] rfl rfl rfl rfl ⟨⟨rfl,rfl,rfl⟩,trivial⟩ (fun _ ext=>TL.on rfl rfl rfl rfl <| TL.callV hF (at_fn 0 0) rfl rfl TL.fin) ?_
  refine DH.k2 (by kernel_rfl) (by kernel_rfl) (by kernel_rfl) (by kernel_rfl) (HBK.mk (h:=19) [14] [(161,_,some 15),(162,_,some 16),(163,_,some 17),(164,_,some 18),(157,_,some 11)] rfl rfl rfl ⟨⟨rfl,rfl,rfl⟩,⟨rfl,rfl,rfl⟩,⟨rfl,rfl,rfl⟩,⟨rfl,rfl,rfl⟩,⟨rfl,rfl,rfl⟩,trivial⟩ (by kernel_rfl) (fun ext=>?_)) (HBK.mk (h:=21) [14] [(166,_,some 20),(157,_,some 11)] rfl rfl rfl ⟨⟨rfl,rfl,rfl⟩,⟨rfl,rfl,rfl⟩,trivial⟩ (by kernel_rfl) (fun ext=>?_))
  ·refine TL.on rfl rfl rfl rfl ?_
   refine TL.buildSlice hF rfl (cs:=(([(0,1),(0,2),(0,3),(1,4)]:List Key).flatMap kC).toArray) (e:=25) (fun w=>by kernel_rfl) rfl (fun b165=>?_)
   refine TL.finK ⟨⟨_,rfl,_,_,[(159,_,some 13),(157,_,some 11)],rfl,rfl,⟨⟨rfl,rfl,rfl⟩,⟨rfl,rfl,rfl⟩,trivial⟩,fun ext=>TL.on rfl rfl rfl rfl <| TL.loadA hF (rhC x8) rfl rfl (hl8.ro.atA (i:=0) (show 0<2 by decide)) rfl TL.fin⟩,trivial⟩ ?_
   refine DH.k1 (by kernel_rfl) (by kernel_rfl) (by kernel_rfl) (by kernel_rfl) (HBK.mk (h:=21) [14] [(166,_,some 20),(157,_,some 11)] rfl rfl rfl ⟨⟨rfl,rfl,rfl⟩,⟨rfl,rfl,rfl⟩,trivial⟩ (by kernel_rfl) (fun ext=>?_))
   refine TL.on rfl rfl rfl rfl ?_
   refine TL.buildSlice hF rfl (cs:=(([(0,0)]:List Key).flatMap kC).toArray) (e:=25) (fun w=>by kernel_rfl) rfl (fun b167=>?_)
   refine TL.finK ⟨⟨_,rfl,_,_,[(159,_,some 13),(157,_,some 11)],rfl,rfl,⟨⟨rfl,rfl,rfl⟩,⟨rfl,rfl,rfl⟩,trivial⟩,fun ext=>TL.on rfl rfl rfl rfl <| TL.loadA hF (rhC x8) rfl rfl (hl8.ro.atA (i:=0) (show 0<2 by decide)) rfl TL.fin⟩,trivial⟩ ?_
   refine DH.pure (i:=22) [(165,_,some 19),(167,_,some 21),(157,_,some 11)] rfl rfl rfl rfl ⟨⟨rfl,rfl,rfl⟩,⟨rfl,rfl,rfl⟩,⟨rfl,rfl,rfl⟩,trivial⟩ (fun _ ext=>TL.on rfl rfl rfl rfl <| TL.build hF rfl (r:=.agg (rhC ⟨⟨1,[(0,1),(0,2),(0,3),(1,4)],[],[(0,0)],[]⟩,some ⟨b165,0,none⟩,4,none,0,some ⟨b167,0,none⟩,1,none,0⟩).toArray) (fun w=>by kernel_rfl) rfl TL.fin) ?_
   refine DH.read (i:=23) [(160,_,some 14),(168,_,some 22),(157,_,some 11)] rfl rfl rfl rfl ⟨⟨rfl,rfl,rfl⟩,⟨rfl,rfl,rfl⟩,⟨rfl,rfl,rfl⟩,trivial⟩ (fun ext=>TL.on rfl rfl rfl rfl <| TL.callV hF (round_true (r:=⟨1,[(0,1),(0,2),(0,3),(1,4)],[],[(0,0)],[]⟩) ((hl8.item _ (by simp)).up (by simp)) (y:=⟨⟨1,[(0,1),(0,2),(0,3),(1,4)],[],[(0,0)],[]⟩,some ⟨b165,0,none⟩,4,none,0,some ⟨b167,0,none⟩,1,none,0⟩) ⟨(row_own (b:=b165) (cs:=([(0,1),(0,2),(0,3),(1,4)]:List Key).flatMap kC) (e:=25) (by simp)),Row.none,(row_own (b:=b167) (cs:=([(0,0)]:List Key).flatMap kC) (e:=25) (by simp)),Row.none⟩ hx8 rfl (by decide)) rfl rfl TL.fin) ?_
   refine DH.pure (i:=24) [(157,_,some 11),(169,_,some 23)] rfl rfl rfl rfl ⟨⟨rfl,rfl,rfl⟩,⟨rfl,rfl,rfl⟩,trivial⟩ (fun _ ext=>TL.pickT hF rfl rfl rfl rfl TL.fin) ?_
   refine DH.pure (i:=25) [(170,_,some 24)] rfl rfl rfl rfl ⟨⟨rfl,rfl,rfl⟩,trivial⟩ (fun _ ext=>TL.move hF rfl rfl TL.fin) ?_
   refine DH.pure (i:=26) [(8,_,none),(171,_,some 25)] rfl rfl rfl rfl ⟨⟨rfl,by kernel_rfl⟩,⟨rfl,rfl,rfl⟩,trivial⟩ (fun _ ext=>TL.on rfl rfl rfl rfl <| TL.move hF rfl rfl TL.fin) ?_
   refine DH.pure (i:=27) [(172,_,some 26),(171,_,some 25)] rfl rfl rfl rfl ⟨⟨rfl,rfl,rfl⟩,⟨rfl,rfl,rfl⟩,trivial⟩ (fun _ ext=>TL.on rfl rfl rfl rfl <| TL.indexAddr hF rfl rfl (hl8.ad (i:=1) (show 1<2 by decide)) (by decide) (show (1:Int)<((2:Nat):Int) by decide) rfl TL.fin) ?_
   refine DH.pure (i:=28) [(173,_,some 27),(171,_,some 25)] rfl rfl rfl rfl ⟨⟨rfl,rfl,rfl⟩,⟨rfl,rfl,rfl⟩,trivial⟩ (fun _ ext=>TL.on rfl rfl rfl rfl <| TL.fieldAddr hF rfl rfl TL.fin) ?_
   refine DH.read (i:=29) [(174,_,some 28),(171,_,some 25)] rfl rfl rfl rfl ⟨⟨rfl,rfl,rfl⟩,⟨rfl,rfl,rfl⟩,trivial⟩ (fun ext=>TL.on rfl rfl rfl rfl <| TL.load hF rfl (show At _ _ _ _ (.int .i64 1) from (hl8.ro.atA (i:=1) (show 1<2 by decide) 0 _ (by rw [show ([x8,y8]:List RH)[1]=y8 from rfl]; unfold rhC; rw [hy8]; rfl))) rfl TL.fin) ?_
   refine DH.pure (i:=30) [(175,_,some 29),(171,_,some 25)] rfl rfl rfl rfl ⟨⟨rfl,rfl,rfl⟩,⟨rfl,rfl,rfl⟩,trivial⟩ (fun _ ext=>TL.on rfl rfl rfl rfl <| TL.bin hF rfl rfl rfl rfl TL.fin) ?_
   refine DH.pure (i:=31) [(171,_,some 25),(176,_,some 30)] rfl rfl rfl rfl ⟨⟨rfl,rfl,rfl⟩,⟨rfl,rfl,rfl⟩,trivial⟩ (fun _ ext=>TL.pickT hF rfl rfl rfl rfl TL.fin) ?_
   refine DH.pure (i:=32) [(177,_,some 31)] rfl rfl rfl rfl ⟨⟨rfl,rfl,rfl⟩,trivial⟩ (fun _ ext=>TL.move hF rfl rfl TL.fin) ?_
   refine DH.pure (i:=33) [(8,_,none),(178,_,some 32)] rfl rfl rfl rfl ⟨⟨rfl,by kernel_rfl⟩,⟨rfl,rfl,rfl⟩,trivial⟩ (fun _ ext=>TL.on rfl rfl rfl rfl <| TL.move hF rfl rfl TL.fin) ?_
   refine DH.pure (i:=34) [(179,_,some 33),(178,_,some 32)] rfl rfl rfl rfl ⟨⟨rfl,rfl,rfl⟩,⟨rfl,rfl,rfl⟩,trivial⟩ (fun _ ext=>TL.on rfl rfl rfl rfl <| TL.indexAddr hF rfl rfl (hl8.ad (i:=1) (show 1<2 by decide)) (by decide) (show (1:Int)<((2:Nat):Int) by decide) rfl TL.fin) ?_
   refine DH.pure (i:=35) [(180,_,some 34),(178,_,some 32)] rfl rfl rfl rfl ⟨⟨rfl,rfl,rfl⟩,⟨rfl,rfl,rfl⟩,trivial⟩ (fun _ ext=>TL.on rfl rfl rfl rfl <| TL.fieldAddr hF rfl rfl TL.fin) ?_
   refine DH.read (i:=36) [(181,_,some 35),(178,_,some 32)] rfl rfl rfl rfl ⟨⟨rfl,rfl,rfl⟩,⟨rfl,rfl,rfl⟩,trivial⟩ (fun ext=>TL.on rfl rfl rfl rfl <| TL.load hF rfl (show At _ _ _ _ (.slice y8.a1 0 y8.c1) from (hl8.ro.atA (i:=1) (show 1<2 by decide) 1 _ (by rw [show ([x8,y8]:List RH)[1]=y8 from rfl]; unfold rhC; rw [hy8]; rfl))) rfl TL.fin) ?_
   refine DH.pure (i:=37) [(182,_,some 36),(178,_,some 32)] rfl rfl rfl rfl ⟨⟨rfl,rfl,rfl⟩,⟨rfl,rfl,rfl⟩,trivial⟩ (fun _ ext=>TL.on rfl rfl rfl rfl <| TL.len hF rfl rfl TL.fin) ?_
   refine DH.pure (i:=38) [(8,_,none),(178,_,some 32)] rfl rfl rfl rfl ⟨⟨rfl,by kernel_rfl⟩,⟨rfl,rfl,rfl⟩,trivial⟩ (fun _ ext=>TL.on rfl rfl rfl rfl <| TL.move hF rfl rfl TL.fin) ?_
   refine DH.pure (i:=39) [(184,_,some 38),(178,_,some 32)] rfl rfl rfl rfl ⟨⟨rfl,rfl,rfl⟩,⟨rfl,rfl,rfl⟩,trivial⟩ (fun _ ext=>TL.on rfl rfl rfl rfl <| TL.indexAddr hF rfl rfl (hl8.ad (i:=1) (show 1<2 by decide)) (by decide) (show (1:Int)<((2:Nat):Int) by decide) rfl TL.fin) ?_
   refine DH.pure (i:=40) [(185,_,some 39),(178,_,some 32)] rfl rfl rfl rfl ⟨⟨rfl,rfl,rfl⟩,⟨rfl,rfl,rfl⟩,trivial⟩ (fun _ ext=>TL.on rfl rfl rfl rfl <| TL.fieldAddr hF rfl rfl TL.fin) ?_
   refine DH.read (i:=41) [(186,_,some 40),(178,_,some 32)] rfl rfl rfl rfl ⟨⟨rfl,rfl,rfl⟩,⟨rfl,rfl,rfl⟩,trivial⟩ (fun ext=>TL.on rfl rfl rfl rfl <| TL.load hF rfl (show At _ _ _ _ (.slice y8.a2 0 y8.c2) from (hl8.ro.atA (i:=1) (show 1<2 by decide) 2 _ (by rw [show ([x8,y8]:List RH)[1]=y8 from rfl]; unfold rhC; rw [hy8]; rfl))) rfl TL.fin) ?_
   refine DH.pure (i:=42) [(187,_,some 41),(178,_,some 32)] rfl rfl rfl rfl ⟨⟨rfl,rfl,rfl⟩,⟨rfl,rfl,rfl⟩,trivial⟩ (fun _ ext=>TL.on rfl rfl rfl rfl <| TL.len hF rfl rfl TL.fin) ?_
   refine DH.pure (i:=43) [(183,_,some 37),(188,_,some 42),(178,_,some 32)] rfl rfl rfl rfl ⟨⟨rfl,rfl,rfl⟩,⟨rfl,rfl,rfl⟩,⟨rfl,rfl,rfl⟩,trivial⟩ (fun _ ext=>TL.on rfl rfl rfl rfl <| TL.add hF rfl rfl (by decide) (by decide) rfl TL.fin) ?_
   refine DH.pure (i:=44) [(8,_,none),(178,_,some 32)] rfl rfl rfl rfl ⟨⟨rfl,by kernel_rfl⟩,⟨rfl,rfl,rfl⟩,trivial⟩ (fun _ ext=>TL.on rfl rfl rfl rfl <| TL.move hF rfl rfl TL.fin) ?_
   refine DH.pure (i:=45) [(190,_,some 44),(178,_,some 32)] rfl rfl rfl rfl ⟨⟨rfl,rfl,rfl⟩,⟨rfl,rfl,rfl⟩,trivial⟩ (fun _ ext=>TL.on rfl rfl rfl rfl <| TL.indexAddr hF rfl rfl (hl8.ad (i:=1) (show 1<2 by decide)) (by decide) (show (1:Int)<((2:Nat):Int) by decide) rfl TL.fin) ?_
   refine DH.pure (i:=46) [(191,_,some 45),(178,_,some 32)] rfl rfl rfl rfl ⟨⟨rfl,rfl,rfl⟩,⟨rfl,rfl,rfl⟩,trivial⟩ (fun _ ext=>TL.on rfl rfl rfl rfl <| TL.fieldAddr hF rfl rfl TL.fin) ?_
   refine DH.read (i:=47) [(192,_,some 46),(178,_,some 32)] rfl rfl rfl rfl ⟨⟨rfl,rfl,rfl⟩,⟨rfl,rfl,rfl⟩,trivial⟩ (fun ext=>TL.on rfl rfl rfl rfl <| TL.load hF rfl (show At _ _ _ _ (.slice y8.a4 0 y8.c4) from (hl8.ro.atA (i:=1) (show 1<2 by decide) 4 _ (by rw [show ([x8,y8]:List RH)[1]=y8 from rfl]; unfold rhC; rw [hy8]; rfl))) rfl TL.fin) ?_
   refine DH.pure (i:=48) [(193,_,some 47),(178,_,some 32)] rfl rfl rfl rfl ⟨⟨rfl,rfl,rfl⟩,⟨rfl,rfl,rfl⟩,trivial⟩ (fun _ ext=>TL.on rfl rfl rfl rfl <| TL.len hF rfl rfl TL.fin) ?_
   refine DH.pure (i:=49) [(189,_,some 43),(194,_,some 48),(178,_,some 32)] rfl rfl rfl rfl ⟨⟨rfl,rfl,rfl⟩,⟨rfl,rfl,rfl⟩,⟨rfl,rfl,rfl⟩,trivial⟩ (fun _ ext=>TL.on rfl rfl rfl rfl <| TL.add hF rfl rfl (by decide) (by decide) rfl TL.fin) ?_
   refine DH.pure (i:=50) [(195,_,some 49),(178,_,some 32)] rfl rfl rfl rfl ⟨⟨rfl,rfl,rfl⟩,⟨rfl,rfl,rfl⟩,trivial⟩ (fun _ ext=>TL.on rfl rfl rfl rfl <| TL.bin hF rfl rfl rfl rfl TL.fin) ?_
   refine DH.pure (i:=51) [(178,_,some 32),(196,_,some 50)] rfl rfl rfl rfl ⟨⟨rfl,rfl,rfl⟩,⟨rfl,rfl,rfl⟩,trivial⟩ (fun _ ext=>TL.pickT hF rfl rfl rfl rfl TL.fin) ?_
   refine DH.pure (i:=52) [(197,_,some 51)] rfl rfl rfl rfl ⟨⟨rfl,rfl,rfl⟩,trivial⟩ (fun _ ext=>TL.move hF rfl rfl TL.fin) ?_
   refine DH.pure (i:=53) [(10,_,none),(198,_,some 52)] rfl rfl rfl rfl ⟨⟨rfl,by kernel_rfl⟩,⟨rfl,rfl,rfl⟩,trivial⟩ (fun _ ext=>TL.on rfl rfl rfl rfl <| TL.move hF rfl rfl TL.fin) ?_
   refine DH.pure (i:=54) [(199,_,some 53),(198,_,some 52)] rfl rfl rfl rfl ⟨⟨rfl,rfl,rfl⟩,⟨rfl,rfl,rfl⟩,trivial⟩ (fun _ ext=>TL.on rfl rfl rfl rfl <| TL.indexAddr hF rfl rfl (hl10.ad (i:=0) (show 0<1 by decide)) (by decide) (show (0:Int)<((1:Nat):Int) by decide) rfl TL.fin) ?_
   refine DH.read (i:=55) [(200,_,some 54),(198,_,some 52)] rfl rfl rfl rfl ⟨⟨rfl,rfl,rfl⟩,⟨rfl,rfl,rfl⟩,trivial⟩ (fun ext=>TL.on rfl rfl rfl rfl <| TL.loadA hF (rhC x10) rfl rfl (hl10.ro.atA (i:=0) (show 0<1 by decide)) rfl TL.fin) ?_
   refine DH.pure (i:=56) [(198,_,some 52)] rfl rfl rfl rfl ⟨⟨rfl,rfl,rfl⟩,trivial⟩ (fun _ ext=>TL.on rfl rfl rfl rfl <| TL.callV hF (at_fn 0 1) rfl rfl TL.fin) ?_
   refine DH.pure (i:=57) [(198,_,some 52)] rfl rfl rfl rfl ⟨⟨rfl,rfl,rfl⟩,trivial⟩ (fun _ ext=>TL.on rfl rfl rfl rfl <| TL.callV hF (at_fn 0 2) rfl rfl TL.fin) ?_
   refine DH.pure (i:=59) [(198,_,some 52)] rfl rfl rfl rfl ⟨⟨rfl,rfl,rfl⟩,trivial⟩ (fun _ ext=>TL.on rfl rfl rfl rfl <| TL.callV hF (at_fn 0 0) rfl rfl TL.fin) ?_
   refine DH.pure (i:=60) [(198,_,some 52)] rfl rfl rfl rfl ⟨⟨rfl,rfl,rfl⟩,trivial⟩ (fun _ ext=>TL.on rfl rfl rfl rfl <| TL.callV hF (at_fn 0 3) rfl rfl TL.fin) ?_
   refine DH.pure (i:=61) [(198,_,some 52)] rfl rfl rfl rfl ⟨⟨rfl,rfl,rfl⟩,trivial⟩ (fun _ ext=>TL.on rfl rfl rfl rfl <| TL.callV hF (at_fn 1 4) rfl rfl TL.fin) ?_
   refine DH.k2 (by kernel_rfl) (by kernel_rfl) (by kernel_rfl) (by kernel_rfl) (HBK.mk (h:=58) [55] [(202,_,some 56),(203,_,some 57),(198,_,some 52)] rfl rfl rfl ⟨⟨rfl,rfl,rfl⟩,⟨rfl,rfl,rfl⟩,⟨rfl,rfl,rfl⟩,trivial⟩ (by kernel_rfl) (fun ext=>?_)) (HBK.mk (h:=62) [55] [(205,_,some 59),(206,_,some 60),(207,_,some 61),(198,_,some 52)] rfl rfl rfl ⟨⟨rfl,rfl,rfl⟩,⟨rfl,rfl,rfl⟩,⟨rfl,rfl,rfl⟩,⟨rfl,rfl,rfl⟩,trivial⟩ (by kernel_rfl) (fun ext=>?_))
   ·refine TL.on rfl rfl rfl rfl ?_
    refine TL.buildSlice hF rfl (cs:=(([(0,1),(0,2)]:List Key).flatMap kC).toArray) (e:=25) (fun w=>by kernel_rfl) rfl (fun b204=>?_)
    refine TL.finK ⟨⟨_,rfl,_,_,[(200,_,some 54),(198,_,some 52)],rfl,rfl,⟨⟨rfl,rfl,rfl⟩,⟨rfl,rfl,rfl⟩,trivial⟩,fun ext=>TL.on rfl rfl rfl rfl <| TL.loadA hF (rhC x10) rfl rfl (hl10.ro.atA (i:=0) (show 0<1 by decide)) rfl TL.fin⟩,trivial⟩ ?_
    refine DH.k1 (by kernel_rfl) (by kernel_rfl) (by kernel_rfl) (by kernel_rfl) (HBK.mk (h:=62) [55] [(205,_,some 59),(206,_,some 60),(207,_,some 61),(198,_,some 52)] rfl rfl rfl ⟨⟨rfl,rfl,rfl⟩,⟨rfl,rfl,rfl⟩,⟨rfl,rfl,rfl⟩,⟨rfl,rfl,rfl⟩,trivial⟩ (by kernel_rfl) (fun ext=>?_))
    refine TL.on rfl rfl rfl rfl ?_
    refine TL.buildSlice hF rfl (cs:=(([(0,0),(0,3),(1,4)]:List Key).flatMap kC).toArray) (e:=25) (fun w=>by kernel_rfl) rfl (fun b208=>?_)
    refine TL.finK ⟨⟨_,rfl,_,_,[(200,_,some 54),(198,_,some 52)],rfl,rfl,⟨⟨rfl,rfl,rfl⟩,⟨rfl,rfl,rfl⟩,trivial⟩,fun ext=>TL.on rfl rfl rfl rfl <| TL.loadA hF (rhC x10) rfl rfl (hl10.ro.atA (i:=0) (show 0<1 by decide)) rfl TL.fin⟩,trivial⟩ ?_
    refine DH.pure (i:=63) [(204,_,some 58),(208,_,some 62),(198,_,some 52)] rfl rfl rfl rfl ⟨⟨rfl,rfl,rfl⟩,⟨rfl,rfl,rfl⟩,⟨rfl,rfl,rfl⟩,trivial⟩ (fun _ ext=>TL.on rfl rfl rfl rfl <| TL.build hF rfl (r:=.agg (rhC ⟨⟨1,[(0,1),(0,2)],[],[(0,0),(0,3),(1,4)],[]⟩,some ⟨b204,0,none⟩,2,none,0,some ⟨b208,0,none⟩,3,none,0⟩).toArray) (fun w=>by kernel_rfl) rfl TL.fin) ?_
    refine DH.done [(209,_),(208,_),(204,_),(207,_),(206,_),(205,_),(203,_),(202,_),(201,_),(200,_),(199,_),(198,_),(197,_),(196,_),(195,_),(194,_),(193,_),(192,_),(191,_),(190,_),(189,_),(188,_),(187,_),(186,_),(185,_),(184,_),(183,_),(182,_),(181,_),(180,_),(179,_),(178,_),(177,_),(176,_),(175,_),(174,_),(173,_),(172,_),(171,_),(170,_),(169,_),(168,_),(167,_),(165,_),(166,_),(164,_),(163,_),(162,_),(161,_),(160,_),(159,_),(158,_),(157,_),(156,_),(155,_),(154,_),(151,_),(153,_),(152,_),(150,_),(149,_),(148,_),(147,_),(146,_)] [_,_,_] (by kernel_rfl) (by kernel_rfl) (by kernel_rfl) (by kernel_rfl) rfl rfl ?_
    refine TL.on rfl rfl rfl rfl ?_
    refine TL.callV hF (round_true (r:=⟨1,[(0,1),(0,2)],[],[(0,0),(0,3),(1,4)],[]⟩) ((hl10.item _ (by simp)).up (by simp)) (y:=⟨⟨1,[(0,1),(0,2)],[],[(0,0),(0,3),(1,4)],[]⟩,some ⟨b204,0,none⟩,2,none,0,some ⟨b208,0,none⟩,3,none,0⟩) ⟨(row_own (b:=b204) (cs:=([(0,1),(0,2)]:List Key).flatMap kC) (e:=25) (by simp)),Row.none,(row_own (b:=b208) (cs:=([(0,0),(0,3),(1,4)]:List Key).flatMap kC) (e:=25) (by simp)),Row.none⟩ hx10 rfl (by decide)) rfl rfl ?_
    refine TL.pickT hF rfl rfl rfl rfl ?_
    refine TL.assign hF rfl rfl ?_
    refine TL.nil ?_
    refine TQ.then_n ?_
    refine T.ret ?_
    exact TQ.retsF [0] _ hb rfl rfl rfl (fun _=>rfl)
   ·refine TL.on rfl rfl rfl rfl ?_
    refine TL.buildSlice hF rfl (cs:=(([(0,0),(0,3),(1,4)]:List Key).flatMap kC).toArray) (e:=25) (fun w=>by kernel_rfl) rfl (fun b208=>?_)
    refine TL.finK ⟨⟨_,rfl,_,_,[(200,_,some 54),(198,_,some 52)],rfl,rfl,⟨⟨rfl,rfl,rfl⟩,⟨rfl,rfl,rfl⟩,trivial⟩,fun ext=>TL.on rfl rfl rfl rfl <| TL.loadA hF (rhC x10) rfl rfl (hl10.ro.atA (i:=0) (show 0<1 by decide)) rfl TL.fin⟩,trivial⟩ ?_
    refine DH.k1 (by kernel_rfl) (by kernel_rfl) (by kernel_rfl) (by kernel_rfl) (HBK.mk (h:=58) [55] [(202,_,some 56),(203,_,some 57),(198,_,some 52)] rfl rfl rfl ⟨⟨rfl,rfl,rfl⟩,⟨rfl,rfl,rfl⟩,⟨rfl,rfl,rfl⟩,trivial⟩ (by kernel_rfl) (fun ext=>?_))
    refine TL.on rfl rfl rfl rfl ?_
    refine TL.buildSlice hF rfl (cs:=(([(0,1),(0,2)]:List Key).flatMap kC).toArray) (e:=25) (fun w=>by kernel_rfl) rfl (fun b204=>?_)
    refine TL.finK ⟨⟨_,rfl,_,_,[(200,_,some 54),(198,_,some 52)],rfl,rfl,⟨⟨rfl,rfl,rfl⟩,⟨rfl,rfl,rfl⟩,trivial⟩,fun ext=>TL.on rfl rfl rfl rfl <| TL.loadA hF (rhC x10) rfl rfl (hl10.ro.atA (i:=0) (show 0<1 by decide)) rfl TL.fin⟩,trivial⟩ ?_
    refine DH.pure (i:=63) [(204,_,some 58),(208,_,some 62),(198,_,some 52)] rfl rfl rfl rfl ⟨⟨rfl,rfl,rfl⟩,⟨rfl,rfl,rfl⟩,⟨rfl,rfl,rfl⟩,trivial⟩ (fun _ ext=>TL.on rfl rfl rfl rfl <| TL.build hF rfl (r:=.agg (rhC ⟨⟨1,[(0,1),(0,2)],[],[(0,0),(0,3),(1,4)],[]⟩,some ⟨b204,0,none⟩,2,none,0,some ⟨b208,0,none⟩,3,none,0⟩).toArray) (fun w=>by kernel_rfl) rfl TL.fin) ?_
    refine DH.done [(209,_),(204,_),(208,_),(207,_),(206,_),(205,_),(203,_),(202,_),(201,_),(200,_),(199,_),(198,_),(197,_),(196,_),(195,_),(194,_),(193,_),(192,_),(191,_),(190,_),(189,_),(188,_),(187,_),(186,_),(185,_),(184,_),(183,_),(182,_),(181,_),(180,_),(179,_),(178,_),(177,_),(176,_),(175,_),(174,_),(173,_),(172,_),(171,_),(170,_),(169,_),(168,_),(167,_),(165,_),(166,_),(164,_),(163,_),(162,_),(161,_),(160,_),(159,_),(158,_),(157,_),(156,_),(155,_),(154,_),(151,_),(153,_),(152,_),(150,_),(149,_),(148,_),(147,_),(146,_)] [_,_,_] (by kernel_rfl) (by kernel_rfl) (by kernel_rfl) (by kernel_rfl) rfl rfl ?_
    refine TL.on rfl rfl rfl rfl ?_
    refine TL.callV hF (round_true (r:=⟨1,[(0,1),(0,2)],[],[(0,0),(0,3),(1,4)],[]⟩) ((hl10.item _ (by simp)).up (by simp)) (y:=⟨⟨1,[(0,1),(0,2)],[],[(0,0),(0,3),(1,4)],[]⟩,some ⟨b204,0,none⟩,2,none,0,some ⟨b208,0,none⟩,3,none,0⟩) ⟨(row_own (b:=b204) (cs:=([(0,1),(0,2)]:List Key).flatMap kC) (e:=25) (by simp)),Row.none,(row_own (b:=b208) (cs:=([(0,0),(0,3),(1,4)]:List Key).flatMap kC) (e:=25) (by simp)),Row.none⟩ hx10 rfl (by decide)) rfl rfl ?_
    refine TL.pickT hF rfl rfl rfl rfl ?_
    refine TL.assign hF rfl rfl ?_
    refine TL.nil ?_
    refine TQ.then_n ?_
    refine T.ret ?_
    exact TQ.retsF [0] _ hb rfl rfl rfl (fun _=>rfl)
  ·refine TL.on rfl rfl rfl rfl ?_
   refine TL.buildSlice hF rfl (cs:=(([(0,0)]:List Key).flatMap kC).toArray) (e:=25) (fun w=>by kernel_rfl) rfl (fun b167=>?_)
   refine TL.finK ⟨⟨_,rfl,_,_,[(159,_,some 13),(157,_,some 11)],rfl,rfl,⟨⟨rfl,rfl,rfl⟩,⟨rfl,rfl,rfl⟩,trivial⟩,fun ext=>TL.on rfl rfl rfl rfl <| TL.loadA hF (rhC x8) rfl rfl (hl8.ro.atA (i:=0) (show 0<2 by decide)) rfl TL.fin⟩,trivial⟩ ?_
   refine DH.k1 (by kernel_rfl) (by kernel_rfl) (by kernel_rfl) (by kernel_rfl) (HBK.mk (h:=19) [14] [(161,_,some 15),(162,_,some 16),(163,_,some 17),(164,_,some 18),(157,_,some 11)] rfl rfl rfl ⟨⟨rfl,rfl,rfl⟩,⟨rfl,rfl,rfl⟩,⟨rfl,rfl,rfl⟩,⟨rfl,rfl,rfl⟩,⟨rfl,rfl,rfl⟩,trivial⟩ (by kernel_rfl) (fun ext=>?_))
   refine TL.on rfl rfl rfl rfl ?_
   refine TL.buildSlice hF rfl (cs:=(([(0,1),(0,2),(0,3),(1,4)]:List Key).flatMap kC).toArray) (e:=25) (fun w=>by kernel_rfl) rfl (fun b165=>?_)
   refine TL.finK ⟨⟨_,rfl,_,_,[(159,_,some 13),(157,_,some 11)],rfl,rfl,⟨⟨rfl,rfl,rfl⟩,⟨rfl,rfl,rfl⟩,trivial⟩,fun ext=>TL.on rfl rfl rfl rfl <| TL.loadA hF (rhC x8) rfl rfl (hl8.ro.atA (i:=0) (show 0<2 by decide)) rfl TL.fin⟩,trivial⟩ ?_
   refine DH.pure (i:=22) [(165,_,some 19),(167,_,some 21),(157,_,some 11)] rfl rfl rfl rfl ⟨⟨rfl,rfl,rfl⟩,⟨rfl,rfl,rfl⟩,⟨rfl,rfl,rfl⟩,trivial⟩ (fun _ ext=>TL.on rfl rfl rfl rfl <| TL.build hF rfl (r:=.agg (rhC ⟨⟨1,[(0,1),(0,2),(0,3),(1,4)],[],[(0,0)],[]⟩,some ⟨b165,0,none⟩,4,none,0,some ⟨b167,0,none⟩,1,none,0⟩).toArray) (fun w=>by kernel_rfl) rfl TL.fin) ?_
   refine DH.read (i:=23) [(160,_,some 14),(168,_,some 22),(157,_,some 11)] rfl rfl rfl rfl ⟨⟨rfl,rfl,rfl⟩,⟨rfl,rfl,rfl⟩,⟨rfl,rfl,rfl⟩,trivial⟩ (fun ext=>TL.on rfl rfl rfl rfl <| TL.callV hF (round_true (r:=⟨1,[(0,1),(0,2),(0,3),(1,4)],[],[(0,0)],[]⟩) ((hl8.item _ (by simp)).up (by simp)) (y:=⟨⟨1,[(0,1),(0,2),(0,3),(1,4)],[],[(0,0)],[]⟩,some ⟨b165,0,none⟩,4,none,0,some ⟨b167,0,none⟩,1,none,0⟩) ⟨(row_own (b:=b165) (cs:=([(0,1),(0,2),(0,3),(1,4)]:List Key).flatMap kC) (e:=25) (by simp)),Row.none,(row_own (b:=b167) (cs:=([(0,0)]:List Key).flatMap kC) (e:=25) (by simp)),Row.none⟩ hx8 rfl (by decide)) rfl rfl TL.fin) ?_
   refine DH.pure (i:=24) [(157,_,some 11),(169,_,some 23)] rfl rfl rfl rfl ⟨⟨rfl,rfl,rfl⟩,⟨rfl,rfl,rfl⟩,trivial⟩ (fun _ ext=>TL.pickT hF rfl rfl rfl rfl TL.fin) ?_
   refine DH.pure (i:=25) [(170,_,some 24)] rfl rfl rfl rfl ⟨⟨rfl,rfl,rfl⟩,trivial⟩ (fun _ ext=>TL.move hF rfl rfl TL.fin) ?_
   refine DH.pure (i:=26) [(8,_,none),(171,_,some 25)] rfl rfl rfl rfl ⟨⟨rfl,by kernel_rfl⟩,⟨rfl,rfl,rfl⟩,trivial⟩ (fun _ ext=>TL.on rfl rfl rfl rfl <| TL.move hF rfl rfl TL.fin) ?_
   refine DH.pure (i:=27) [(172,_,some 26),(171,_,some 25)] rfl rfl rfl rfl ⟨⟨rfl,rfl,rfl⟩,⟨rfl,rfl,rfl⟩,trivial⟩ (fun _ ext=>TL.on rfl rfl rfl rfl <| TL.indexAddr hF rfl rfl (hl8.ad (i:=1) (show 1<2 by decide)) (by decide) (show (1:Int)<((2:Nat):Int) by decide) rfl TL.fin) ?_
   refine DH.pure (i:=28) [(173,_,some 27),(171,_,some 25)] rfl rfl rfl rfl ⟨⟨rfl,rfl,rfl⟩,⟨rfl,rfl,rfl⟩,trivial⟩ (fun _ ext=>TL.on rfl rfl rfl rfl <| TL.fieldAddr hF rfl rfl TL.fin) ?_
   refine DH.read (i:=29) [(174,_,some 28),(171,_,some 25)] rfl rfl rfl rfl ⟨⟨rfl,rfl,rfl⟩,⟨rfl,rfl,rfl⟩,trivial⟩ (fun ext=>TL.on rfl rfl rfl rfl <| TL.load hF rfl (show At _ _ _ _ (.int .i64 1) from (hl8.ro.atA (i:=1) (show 1<2 by decide) 0 _ (by rw [show ([x8,y8]:List RH)[1]=y8 from rfl]; unfold rhC; rw [hy8]; rfl))) rfl TL.fin) ?_
   refine DH.pure (i:=30) [(175,_,some 29),(171,_,some 25)] rfl rfl rfl rfl ⟨⟨rfl,rfl,rfl⟩,⟨rfl,rfl,rfl⟩,trivial⟩ (fun _ ext=>TL.on rfl rfl rfl rfl <| TL.bin hF rfl rfl rfl rfl TL.fin) ?_
   refine DH.pure (i:=31) [(171,_,some 25),(176,_,some 30)] rfl rfl rfl rfl ⟨⟨rfl,rfl,rfl⟩,⟨rfl,rfl,rfl⟩,trivial⟩ (fun _ ext=>TL.pickT hF rfl rfl rfl rfl TL.fin) ?_
   refine DH.pure (i:=32) [(177,_,some 31)] rfl rfl rfl rfl ⟨⟨rfl,rfl,rfl⟩,trivial⟩ (fun _ ext=>TL.move hF rfl rfl TL.fin) ?_
   refine DH.pure (i:=33) [(8,_,none),(178,_,some 32)] rfl rfl rfl rfl ⟨⟨rfl,by kernel_rfl⟩,⟨rfl,rfl,rfl⟩,trivial⟩ (fun _ ext=>TL.on rfl rfl rfl rfl <| TL.move hF rfl rfl TL.fin) ?_
   refine DH.pure (i:=34) [(179,_,some 33),(178,_,some 32)] rfl rfl rfl rfl ⟨⟨rfl,rfl,rfl⟩,⟨rfl,rfl,rfl⟩,trivial⟩ (fun _ ext=>TL.on rfl rfl rfl rfl <| TL.indexAddr hF rfl rfl (hl8.ad (i:=1) (show 1<2 by decide)) (by decide) (show (1:Int)<((2:Nat):Int) by decide) rfl TL.fin) ?_
   refine DH.pure (i:=35) [(180,_,some 34),(178,_,some 32)] rfl rfl rfl rfl ⟨⟨rfl,rfl,rfl⟩,⟨rfl,rfl,rfl⟩,trivial⟩ (fun _ ext=>TL.on rfl rfl rfl rfl <| TL.fieldAddr hF rfl rfl TL.fin) ?_
   refine DH.read (i:=36) [(181,_,some 35),(178,_,some 32)] rfl rfl rfl rfl ⟨⟨rfl,rfl,rfl⟩,⟨rfl,rfl,rfl⟩,trivial⟩ (fun ext=>TL.on rfl rfl rfl rfl <| TL.load hF rfl (show At _ _ _ _ (.slice y8.a1 0 y8.c1) from (hl8.ro.atA (i:=1) (show 1<2 by decide) 1 _ (by rw [show ([x8,y8]:List RH)[1]=y8 from rfl]; unfold rhC; rw [hy8]; rfl))) rfl TL.fin) ?_
   refine DH.pure (i:=37) [(182,_,some 36),(178,_,some 32)] rfl rfl rfl rfl ⟨⟨rfl,rfl,rfl⟩,⟨rfl,rfl,rfl⟩,trivial⟩ (fun _ ext=>TL.on rfl rfl rfl rfl <| TL.len hF rfl rfl TL.fin) ?_
   refine DH.pure (i:=38) [(8,_,none),(178,_,some 32)] rfl rfl rfl rfl ⟨⟨rfl,by kernel_rfl⟩,⟨rfl,rfl,rfl⟩,trivial⟩ (fun _ ext=>TL.on rfl rfl rfl rfl <| TL.move hF rfl rfl TL.fin) ?_
   refine DH.pure (i:=39) [(184,_,some 38),(178,_,some 32)] rfl rfl rfl rfl ⟨⟨rfl,rfl,rfl⟩,⟨rfl,rfl,rfl⟩,trivial⟩ (fun _ ext=>TL.on rfl rfl rfl rfl <| TL.indexAddr hF rfl rfl (hl8.ad (i:=1) (show 1<2 by decide)) (by decide) (show (1:Int)<((2:Nat):Int) by decide) rfl TL.fin) ?_
   refine DH.pure (i:=40) [(185,_,some 39),(178,_,some 32)] rfl rfl rfl rfl ⟨⟨rfl,rfl,rfl⟩,⟨rfl,rfl,rfl⟩,trivial⟩ (fun _ ext=>TL.on rfl rfl rfl rfl <| TL.fieldAddr hF rfl rfl TL.fin) ?_
   refine DH.read (i:=41) [(186,_,some 40),(178,_,some 32)] rfl rfl rfl rfl ⟨⟨rfl,rfl,rfl⟩,⟨rfl,rfl,rfl⟩,trivial⟩ (fun ext=>TL.on rfl rfl rfl rfl <| TL.load hF rfl (show At _ _ _ _ (.slice y8.a2 0 y8.c2) from (hl8.ro.atA (i:=1) (show 1<2 by decide) 2 _ (by rw [show ([x8,y8]:List RH)[1]=y8 from rfl]; unfold rhC; rw [hy8]; rfl))) rfl TL.fin) ?_
   refine DH.pure (i:=42) [(187,_,some 41),(178,_,some 32)] rfl rfl rfl rfl ⟨⟨rfl,rfl,rfl⟩,⟨rfl,rfl,rfl⟩,trivial⟩ (fun _ ext=>TL.on rfl rfl rfl rfl <| TL.len hF rfl rfl TL.fin) ?_
   refine DH.pure (i:=43) [(183,_,some 37),(188,_,some 42),(178,_,some 32)] rfl rfl rfl rfl ⟨⟨rfl,rfl,rfl⟩,⟨rfl,rfl,rfl⟩,⟨rfl,rfl,rfl⟩,trivial⟩ (fun _ ext=>TL.on rfl rfl rfl rfl <| TL.add hF rfl rfl (by decide) (by decide) rfl TL.fin) ?_
   refine DH.pure (i:=44) [(8,_,none),(178,_,some 32)] rfl rfl rfl rfl ⟨⟨rfl,by kernel_rfl⟩,⟨rfl,rfl,rfl⟩,trivial⟩ (fun _ ext=>TL.on rfl rfl rfl rfl <| TL.move hF rfl rfl TL.fin) ?_
   refine DH.pure (i:=45) [(190,_,some 44),(178,_,some 32)] rfl rfl rfl rfl ⟨⟨rfl,rfl,rfl⟩,⟨rfl,rfl,rfl⟩,trivial⟩ (fun _ ext=>TL.on rfl rfl rfl rfl <| TL.indexAddr hF rfl rfl (hl8.ad (i:=1) (show 1<2 by decide)) (by decide) (show (1:Int)<((2:Nat):Int) by decide) rfl TL.fin) ?_
   refine DH.pure (i:=46) [(191,_,some 45),(178,_,some 32)] rfl rfl rfl rfl ⟨⟨rfl,rfl,rfl⟩,⟨rfl,rfl,rfl⟩,trivial⟩ (fun _ ext=>TL.on rfl rfl rfl rfl <| TL.fieldAddr hF rfl rfl TL.fin) ?_
   refine DH.read (i:=47) [(192,_,some 46),(178,_,some 32)] rfl rfl rfl rfl ⟨⟨rfl,rfl,rfl⟩,⟨rfl,rfl,rfl⟩,trivial⟩ (fun ext=>TL.on rfl rfl rfl rfl <| TL.load hF rfl (show At _ _ _ _ (.slice y8.a4 0 y8.c4) from (hl8.ro.atA (i:=1) (show 1<2 by decide) 4 _ (by rw [show ([x8,y8]:List RH)[1]=y8 from rfl]; unfold rhC; rw [hy8]; rfl))) rfl TL.fin) ?_
   refine DH.pure (i:=48) [(193,_,some 47),(178,_,some 32)] rfl rfl rfl rfl ⟨⟨rfl,rfl,rfl⟩,⟨rfl,rfl,rfl⟩,trivial⟩ (fun _ ext=>TL.on rfl rfl rfl rfl <| TL.len hF rfl rfl TL.fin) ?_
   refine DH.pure (i:=49) [(189,_,some 43),(194,_,some 48),(178,_,some 32)] rfl rfl rfl rfl ⟨⟨rfl,rfl,rfl⟩,⟨rfl,rfl,rfl⟩,⟨rfl,rfl,rfl⟩,trivial⟩ (fun _ ext=>TL.on rfl rfl rfl rfl <| TL.add hF rfl rfl (by decide) (by decide) rfl TL.fin) ?_
   refine DH.pure (i:=50) [(195,_,some 49),(178,_,some 32)] rfl rfl rfl rfl ⟨⟨rfl,rfl,rfl⟩,⟨rfl,rfl,rfl⟩,trivial⟩ (fun _ ext=>TL.on rfl rfl rfl rfl <| TL.bin hF rfl rfl rfl rfl TL.fin) ?_
   refine DH.pure (i:=51) [(178,_,some 32),(196,_,some 50)] rfl rfl rfl rfl ⟨⟨rfl,rfl,rfl⟩,⟨rfl,rfl,rfl⟩,trivial⟩ (fun _ ext=>TL.pickT hF rfl rfl rfl rfl TL.fin) ?_
   refine DH.pure (i:=52) [(197,_,some 51)] rfl rfl rfl rfl ⟨⟨rfl,rfl,rfl⟩,trivial⟩ (fun _ ext=>TL.move hF rfl rfl TL.fin) ?_
   refine DH.pure (i:=53) [(10,_,none),(198,_,some 52)] rfl rfl rfl rfl ⟨⟨rfl,by kernel_rfl⟩,⟨rfl,rfl,rfl⟩,trivial⟩ (fun _ ext=>TL.on rfl rfl rfl rfl <| TL.move hF rfl rfl TL.fin) ?_
   refine DH.pure (i:=54) [(199,_,some 53),(198,_,some 52)] rfl rfl rfl rfl ⟨⟨rfl,rfl,rfl⟩,⟨rfl,rfl,rfl⟩,trivial⟩ (fun _ ext=>TL.on rfl rfl rfl rfl <| TL.indexAddr hF rfl rfl (hl10.ad (i:=0) (show 0<1 by decide)) (by decide) (show (0:Int)<((1:Nat):Int) by decide) rfl TL.fin) ?_
   refine DH.read (i:=55) [(200,_,some 54),(198,_,some 52)] rfl rfl rfl rfl ⟨⟨rfl,rfl,rfl⟩,⟨rfl,rfl,rfl⟩,trivial⟩ (fun ext=>TL.on rfl rfl rfl rfl <| TL.loadA hF (rhC x10) rfl rfl (hl10.ro.atA (i:=0) (show 0<1 by decide)) rfl TL.fin) ?_
   refine DH.pure (i:=56) [(198,_,some 52)] rfl rfl rfl rfl ⟨⟨rfl,rfl,rfl⟩,trivial⟩ (fun _ ext=>TL.on rfl rfl rfl rfl <| TL.callV hF (at_fn 0 1) rfl rfl TL.fin) ?_
   refine DH.pure (i:=57) [(198,_,some 52)] rfl rfl rfl rfl ⟨⟨rfl,rfl,rfl⟩,trivial⟩ (fun _ ext=>TL.on rfl rfl rfl rfl <| TL.callV hF (at_fn 0 2) rfl rfl TL.fin) ?_
   refine DH.pure (i:=59) [(198,_,some 52)] rfl rfl rfl rfl ⟨⟨rfl,rfl,rfl⟩,trivial⟩ (fun _ ext=>TL.on rfl rfl rfl rfl <| TL.callV hF (at_fn 0 0) rfl rfl TL.fin) ?_
   refine DH.pure (i:=60) [(198,_,some 52)] rfl rfl rfl rfl ⟨⟨rfl,rfl,rfl⟩,trivial⟩ (fun _ ext=>TL.on rfl rfl rfl rfl <| TL.callV hF (at_fn 0 3) rfl rfl TL.fin) ?_
   refine DH.pure (i:=61) [(198,_,some 52)] rfl rfl rfl rfl ⟨⟨rfl,rfl,rfl⟩,trivial⟩ (fun _ ext=>TL.on rfl rfl rfl rfl <| TL.callV hF (at_fn 1 4) rfl rfl TL.fin) ?_
   refine DH.k2 (by kernel_rfl) (by kernel_rfl) (by kernel_rfl) (by kernel_rfl) (HBK.mk (h:=58) [55] [(202,_,some 56),(203,_,some 57),(198,_,some 52)] rfl rfl rfl ⟨⟨rfl,rfl,rfl⟩,⟨rfl,rfl,rfl⟩,⟨rfl,rfl,rfl⟩,trivial⟩ (by kernel_rfl) (fun ext=>?_)) (HBK.mk (h:=62) [55] [(205,_,some 59),(206,_,some 60),(207,_,some 61),(198,_,some 52)] rfl rfl rfl ⟨⟨rfl,rfl,rfl⟩,⟨rfl,rfl,rfl⟩,⟨rfl,rfl,rfl⟩,⟨rfl,rfl,rfl⟩,trivial⟩ (by kernel_rfl) (fun ext=>?_))
   ·refine TL.on rfl rfl rfl rfl ?_
    refine TL.buildSlice hF rfl (cs:=(([(0,1),(0,2)]:List Key).flatMap kC).toArray) (e:=25) (fun w=>by kernel_rfl) rfl (fun b204=>?_)
    refine TL.finK ⟨⟨_,rfl,_,_,[(200,_,some 54),(198,_,some 52)],rfl,rfl,⟨⟨rfl,rfl,rfl⟩,⟨rfl,rfl,rfl⟩,trivial⟩,fun ext=>TL.on rfl rfl rfl rfl <| TL.loadA hF (rhC x10) rfl rfl (hl10.ro.atA (i:=0) (show 0<1 by decide)) rfl TL.fin⟩,trivial⟩ ?_
    refine DH.k1 (by kernel_rfl) (by kernel_rfl) (by kernel_rfl) (by kernel_rfl) (HBK.mk (h:=62) [55] [(205,_,some 59),(206,_,some 60),(207,_,some 61),(198,_,some 52)] rfl rfl rfl ⟨⟨rfl,rfl,rfl⟩,⟨rfl,rfl,rfl⟩,⟨rfl,rfl,rfl⟩,⟨rfl,rfl,rfl⟩,trivial⟩ (by kernel_rfl) (fun ext=>?_))
    refine TL.on rfl rfl rfl rfl ?_
    refine TL.buildSlice hF rfl (cs:=(([(0,0),(0,3),(1,4)]:List Key).flatMap kC).toArray) (e:=25) (fun w=>by kernel_rfl) rfl (fun b208=>?_)
    refine TL.finK ⟨⟨_,rfl,_,_,[(200,_,some 54),(198,_,some 52)],rfl,rfl,⟨⟨rfl,rfl,rfl⟩,⟨rfl,rfl,rfl⟩,trivial⟩,fun ext=>TL.on rfl rfl rfl rfl <| TL.loadA hF (rhC x10) rfl rfl (hl10.ro.atA (i:=0) (show 0<1 by decide)) rfl TL.fin⟩,trivial⟩ ?_
    refine DH.pure (i:=63) [(204,_,some 58),(208,_,some 62),(198,_,some 52)] rfl rfl rfl rfl ⟨⟨rfl,rfl,rfl⟩,⟨rfl,rfl,rfl⟩,⟨rfl,rfl,rfl⟩,trivial⟩ (fun _ ext=>TL.on rfl rfl rfl rfl <| TL.build hF rfl (r:=.agg (rhC ⟨⟨1,[(0,1),(0,2)],[],[(0,0),(0,3),(1,4)],[]⟩,some ⟨b204,0,none⟩,2,none,0,some ⟨b208,0,none⟩,3,none,0⟩).toArray) (fun w=>by kernel_rfl) rfl TL.fin) ?_
    refine DH.done [(209,_),(208,_),(204,_),(207,_),(206,_),(205,_),(203,_),(202,_),(201,_),(200,_),(199,_),(198,_),(197,_),(196,_),(195,_),(194,_),(193,_),(192,_),(191,_),(190,_),(189,_),(188,_),(187,_),(186,_),(185,_),(184,_),(183,_),(182,_),(181,_),(180,_),(179,_),(178,_),(177,_),(176,_),(175,_),(174,_),(173,_),(172,_),(171,_),(170,_),(169,_),(168,_),(165,_),(167,_),(166,_),(164,_),(163,_),(162,_),(161,_),(160,_),(159,_),(158,_),(157,_),(156,_),(155,_),(154,_),(151,_),(153,_),(152,_),(150,_),(149,_),(148,_),(147,_),(146,_)] [_,_,_] (by kernel_rfl) (by kernel_rfl) (by kernel_rfl) (by kernel_rfl) rfl rfl ?_
    refine TL.on rfl rfl rfl rfl ?_
    refine TL.callV hF (round_true (r:=⟨1,[(0,1),(0,2)],[],[(0,0),(0,3),(1,4)],[]⟩) ((hl10.item _ (by simp)).up (by simp)) (y:=⟨⟨1,[(0,1),(0,2)],[],[(0,0),(0,3),(1,4)],[]⟩,some ⟨b204,0,none⟩,2,none,0,some ⟨b208,0,none⟩,3,none,0⟩) ⟨(row_own (b:=b204) (cs:=([(0,1),(0,2)]:List Key).flatMap kC) (e:=25) (by simp)),Row.none,(row_own (b:=b208) (cs:=([(0,0),(0,3),(1,4)]:List Key).flatMap kC) (e:=25) (by simp)),Row.none⟩ hx10 rfl (by decide)) rfl rfl ?_
    refine TL.pickT hF rfl rfl rfl rfl ?_
    refine TL.assign hF rfl rfl ?_
    refine TL.nil ?_
    refine TQ.then_n ?_
    refine T.ret ?_
    exact TQ.retsF [0] _ hb rfl rfl rfl (fun _=>rfl)
   ·refine TL.on rfl rfl rfl rfl ?_
    refine TL.buildSlice hF rfl (cs:=(([(0,0),(0,3),(1,4)]:List Key).flatMap kC).toArray) (e:=25) (fun w=>by kernel_rfl) rfl (fun b208=>?_)
    refine TL.finK ⟨⟨_,rfl,_,_,[(200,_,some 54),(198,_,some 52)],rfl,rfl,⟨⟨rfl,rfl,rfl⟩,⟨rfl,rfl,rfl⟩,trivial⟩,fun ext=>TL.on rfl rfl rfl rfl <| TL.loadA hF (rhC x10) rfl rfl (hl10.ro.atA (i:=0) (show 0<1 by decide)) rfl TL.fin⟩,trivial⟩ ?_
    refine DH.k1 (by kernel_rfl) (by kernel_rfl) (by kernel_rfl) (by kernel_rfl) (HBK.mk (h:=58) [55] [(202,_,some 56),(203,_,some 57),(198,_,some 52)] rfl rfl rfl ⟨⟨rfl,rfl,rfl⟩,⟨rfl,rfl,rfl⟩,⟨rfl,rfl,rfl⟩,trivial⟩ (by kernel_rfl) (fun ext=>?_))
    refine TL.on rfl rfl rfl rfl ?_
    refine TL.buildSlice hF rfl (cs:=(([(0,1),(0,2)]:List Key).flatMap kC).toArray) (e:=25) (fun w=>by kernel_rfl) rfl (fun b204=>?_)
    refine TL.finK ⟨⟨_,rfl,_,_,[(200,_,some 54),(198,_,some 52)],rfl,rfl,⟨⟨rfl,rfl,rfl⟩,⟨rfl,rfl,rfl⟩,trivial⟩,fun ext=>TL.on rfl rfl rfl rfl <| TL.loadA hF (rhC x10) rfl rfl (hl10.ro.atA (i:=0) (show 0<1 by decide)) rfl TL.fin⟩,trivial⟩ ?_
    refine DH.pure (i:=63) [(204,_,some 58),(208,_,some 62),(198,_,some 52)] rfl rfl rfl rfl ⟨⟨rfl,rfl,rfl⟩,⟨rfl,rfl,rfl⟩,⟨rfl,rfl,rfl⟩,trivial⟩ (fun _ ext=>TL.on rfl rfl rfl rfl <| TL.build hF rfl (r:=.agg (rhC ⟨⟨1,[(0,1),(0,2)],[],[(0,0),(0,3),(1,4)],[]⟩,some ⟨b204,0,none⟩,2,none,0,some ⟨b208,0,none⟩,3,none,0⟩).toArray) (fun w=>by kernel_rfl) rfl TL.fin) ?_
    refine DH.done [(209,_),(204,_),(208,_),(207,_),(206,_),(205,_),(203,_),(202,_),(201,_),(200,_),(199,_),(198,_),(197,_),(196,_),(195,_),(194,_),(193,_),(192,_),(191,_),(190,_),(189,_),(188,_),(187,_),(186,_),(185,_),(184,_),(183,_),(182,_),(181,_),(180,_),(179,_),(178,_),(177,_),(176,_),(175,_),(174,_),(173,_),(172,_),(171,_),(170,_),(169,_),(168,_),(165,_),(167,_),(166,_),(164,_),(163,_),(162,_),(161,_),(160,_),(159,_),(158,_),(157,_),(156,_),(155,_),(154,_),(151,_),(153,_),(152,_),(150,_),(149,_),(148,_),(147,_),(146,_)] [_,_,_] (by kernel_rfl) (by kernel_rfl) (by kernel_rfl) (by kernel_rfl) rfl rfl ?_
    refine TL.on rfl rfl rfl rfl ?_
    refine TL.callV hF (round_true (r:=⟨1,[(0,1),(0,2)],[],[(0,0),(0,3),(1,4)],[]⟩) ((hl10.item _ (by simp)).up (by simp)) (y:=⟨⟨1,[(0,1),(0,2)],[],[(0,0),(0,3),(1,4)],[]⟩,some ⟨b204,0,none⟩,2,none,0,some ⟨b208,0,none⟩,3,none,0⟩) ⟨(row_own (b:=b204) (cs:=([(0,1),(0,2)]:List Key).flatMap kC) (e:=25) (by simp)),Row.none,(row_own (b:=b208) (cs:=([(0,0),(0,3),(1,4)]:List Key).flatMap kC) (e:=25) (by simp)),Row.none⟩ hx10 rfl (by decide)) rfl rfl ?_
    refine TL.pickT hF rfl rfl rfl rfl ?_
    refine TL.assign hF rfl rfl ?_
    refine TL.nil ?_
    refine TQ.then_n ?_
    refine T.ret ?_
    exact TQ.retsF [0] _ hb rfl rfl rfl (fun _=>rfl)
 ·refine TL.buildSlice hF rfl (cs:=(([(0,0),(0,1)]:List Key).flatMap kC).toArray) (e:=25) (fun w=>by kernel_rfl) rfl (fun b154=>?_)
  refine TL.finK ⟨⟨_,rfl,_,_,[(147,_,some 1)],rfl,rfl,⟨⟨rfl,rfl,rfl⟩,trivial⟩,fun ext=>TL.loadA hF (rhC x6) rfl rfl (hl6.ro.atA (i:=0) (show 0<1 by decide)) rfl TL.fin⟩,trivial⟩ ?_
  refine DH.k1 (by kernel_rfl) (by kernel_rfl) (by kernel_rfl) (by kernel_rfl) (HBK.mk (h:=5) [2] [(149,_,some 3),(150,_,some 4)] rfl rfl rfl ⟨⟨rfl,rfl,rfl⟩,⟨rfl,rfl,rfl⟩,trivial⟩ (by kernel_rfl) (fun ext=>?_))
  refine TL.buildSlice hF rfl (cs:=(([(0,2),(0,3)]:List Key).flatMap kC).toArray) (e:=25) (fun w=>by kernel_rfl) rfl (fun b151=>?_)
  refine TL.finK ⟨⟨_,rfl,_,_,[(147,_,some 1)],rfl,rfl,⟨⟨rfl,rfl,rfl⟩,trivial⟩,fun ext=>TL.loadA hF (rhC x6) rfl rfl (hl6.ro.atA (i:=0) (show 0<1 by decide)) rfl TL.fin⟩,trivial⟩ ?_
  refine DH.pure (i:=9) [(151,_,some 5),(154,_,some 8)] rfl rfl rfl rfl ⟨⟨rfl,rfl,rfl⟩,⟨rfl,rfl,rfl⟩,trivial⟩ (fun _ ext=>TL.build hF rfl (r:=.agg (rhC ⟨⟨14,[(0,2),(0,3)],[],[(0,0),(0,1)],[]⟩,some ⟨b151,0,none⟩,2,none,0,some ⟨b154,0,none⟩,2,none,0⟩).toArray) (fun w=>by kernel_rfl) rfl TL.fin) ?_
  refine DH.read (i:=10) [(148,_,some 2),(155,_,some 9)] rfl rfl rfl rfl ⟨⟨rfl,rfl,rfl⟩,⟨rfl,rfl,rfl⟩,trivial⟩ (fun ext=>TL.callV hF (round_true (r:=⟨14,[(0,2),(0,3)],[],[(0,0),(0,1)],[]⟩) ((hl6.item _ (by simp)).up (by simp)) (y:=⟨⟨14,[(0,2),(0,3)],[],[(0,0),(0,1)],[]⟩,some ⟨b151,0,none⟩,2,none,0,some ⟨b154,0,none⟩,2,none,0⟩) ⟨(row_own (b:=b151) (cs:=([(0,2),(0,3)]:List Key).flatMap kC) (e:=25) (by simp)),Row.none,(row_own (b:=b154) (cs:=([(0,0),(0,1)]:List Key).flatMap kC) (e:=25) (by simp)),Row.none⟩ hx6 rfl (by decide)) rfl rfl TL.fin) ?_
  refine DH.pure (i:=11) [(156,_,some 10)] rfl rfl rfl rfl ⟨⟨rfl,rfl,rfl⟩,trivial⟩ (fun _ ext=>TL.move hF rfl rfl TL.fin) ?_
  refine DH.pure (i:=12) [(8,_,none),(157,_,some 11)] rfl rfl rfl rfl ⟨⟨rfl,by kernel_rfl⟩,⟨rfl,rfl,rfl⟩,trivial⟩ (fun _ ext=>TL.on rfl rfl rfl rfl <| TL.move hF rfl rfl TL.fin) ?_
  refine DH.pure (i:=13) [(158,_,some 12),(157,_,some 11)] rfl rfl rfl rfl ⟨⟨rfl,rfl,rfl⟩,⟨rfl,rfl,rfl⟩,trivial⟩ (fun _ ext=>TL.on rfl rfl rfl rfl <| TL.indexAddr hF rfl rfl (hl8.ad (i:=0) (show 0<2 by decide)) (by decide) (show (0:Int)<((2:Nat):Int) by decide) rfl TL.fin) ?_
  refine DH.read (i:=14) [(159,_,some 13),(157,_,some 11)] rfl rfl rfl rfl ⟨⟨rfl,rfl,rfl⟩,⟨rfl,rfl,rfl⟩,trivial⟩ (fun ext=>TL.on rfl rfl rfl rfl <| TL.loadA hF (rhC x8) rfl rfl (hl8.ro.atA (i:=0) (show 0<2 by decide)) rfl TL.fin) ?_
  refine DH.pure (i:=15) [(157,_,some 11)] rfl rfl rfl rfl ⟨⟨rfl,rfl,rfl⟩,trivial⟩ (fun _ ext=>TL.on rfl rfl rfl rfl <| TL.callV hF (at_fn 0 1) rfl rfl TL.fin) ?_
  refine DH.pure (i:=16) [(157,_,some 11)] rfl rfl rfl rfl ⟨⟨rfl,rfl,rfl⟩,trivial⟩ (fun _ ext=>TL.on rfl rfl rfl rfl <| TL.callV hF (at_fn 0 2) rfl rfl TL.fin) ?_
  refine DH.pure (i:=17) [(157,_,some 11)] rfl rfl rfl rfl ⟨⟨rfl,rfl,rfl⟩,trivial⟩ (fun _ ext=>TL.on rfl rfl rfl rfl <| TL.callV hF (at_fn 0 3) rfl rfl TL.fin) ?_
  refine DH.pure (i:=18) [(157,_,some 11)] rfl rfl rfl rfl ⟨⟨rfl,rfl,rfl⟩,trivial⟩ (fun _ ext=>TL.on rfl rfl rfl rfl <| TL.callV hF (at_fn 1 4) rfl rfl TL.fin) ?_
  refine DH.pure (i:=20) [(157,_,some 11)] rfl rfl rfl rfl ⟨⟨rfl,rfl,rfl⟩,trivial⟩ (fun _ ext=>TL.on rfl rfl rfl rfl <| TL.callV hF (at_fn 0 0) rfl rfl TL.fin) ?_
  refine DH.k2 (by kernel_rfl) (by kernel_rfl) (by kernel_rfl) (by kernel_rfl) (HBK.mk (h:=19) [14] [(161,_,some 15),(162,_,some 16),(163,_,some 17),(164,_,some 18),(157,_,some 11)] rfl rfl rfl ⟨⟨rfl,rfl,rfl⟩,⟨rfl,rfl,rfl⟩,⟨rfl,rfl,rfl⟩,⟨rfl,rfl,rfl⟩,⟨rfl,rfl,rfl⟩,trivial⟩ (by kernel_rfl) (fun ext=>?_)) (HBK.mk (h:=21) [14] [(166,_,some 20),(157,_,some 11)] rfl rfl rfl ⟨⟨rfl,rfl,rfl⟩,⟨rfl,rfl,rfl⟩,trivial⟩ (by kernel_rfl) (fun ext=>?_))
  ·refine TL.on rfl rfl rfl rfl ?_
   refine TL.buildSlice hF rfl (cs:=(([(0,1),(0,2),(0,3),(1,4)]:List Key).flatMap kC).toArray) (e:=25) (fun w=>by kernel_rfl) rfl (fun b165=>?_)
   refine TL.finK ⟨⟨_,rfl,_,_,[(159,_,some 13),(157,_,some 11)],rfl,rfl,⟨⟨rfl,rfl,rfl⟩,⟨rfl,rfl,rfl⟩,trivial⟩,fun ext=>TL.on rfl rfl rfl rfl <| TL.loadA hF (rhC x8) rfl rfl (hl8.ro.atA (i:=0) (show 0<2 by decide)) rfl TL.fin⟩,trivial⟩ ?_
   refine DH.k1 (by kernel_rfl) (by kernel_rfl) (by kernel_rfl) (by kernel_rfl) (HBK.mk (h:=21) [14] [(166,_,some 20),(157,_,some 11)] rfl rfl rfl ⟨⟨rfl,rfl,rfl⟩,⟨rfl,rfl,rfl⟩,trivial⟩ (by kernel_rfl) (fun ext=>?_))
   refine TL.on rfl rfl rfl rfl ?_
   refine TL.buildSlice hF rfl (cs:=(([(0,0)]:List Key).flatMap kC).toArray) (e:=25) (fun w=>by kernel_rfl) rfl (fun b167=>?_)
   refine TL.finK ⟨⟨_,rfl,_,_,[(159,_,some 13),(157,_,some 11)],rfl,rfl,⟨⟨rfl,rfl,rfl⟩,⟨rfl,rfl,rfl⟩,trivial⟩,fun ext=>TL.on rfl rfl rfl rfl <| TL.loadA hF (rhC x8) rfl rfl (hl8.ro.atA (i:=0) (show 0<2 by decide)) rfl TL.fin⟩,trivial⟩ ?_
   refine DH.pure (i:=22) [(165,_,some 19),(167,_,some 21),(157,_,some 11)] rfl rfl rfl rfl ⟨⟨rfl,rfl,rfl⟩,⟨rfl,rfl,rfl⟩,⟨rfl,rfl,rfl⟩,trivial⟩ (fun _ ext=>TL.on rfl rfl rfl rfl <| TL.build hF rfl (r:=.agg (rhC ⟨⟨1,[(0,1),(0,2),(0,3),(1,4)],[],[(0,0)],[]⟩,some ⟨b165,0,none⟩,4,none,0,some ⟨b167,0,none⟩,1,none,0⟩).toArray) (fun w=>by kernel_rfl) rfl TL.fin) ?_
   refine DH.read (i:=23) [(160,_,some 14),(168,_,some 22),(157,_,some 11)] rfl rfl rfl rfl ⟨⟨rfl,rfl,rfl⟩,⟨rfl,rfl,rfl⟩,⟨rfl,rfl,rfl⟩,trivial⟩ (fun ext=>TL.on rfl rfl rfl rfl <| TL.callV hF (round_true (r:=⟨1,[(0,1),(0,2),(0,3),(1,4)],[],[(0,0)],[]⟩) ((hl8.item _ (by simp)).up (by simp)) (y:=⟨⟨1,[(0,1),(0,2),(0,3),(1,4)],[],[(0,0)],[]⟩,some ⟨b165,0,none⟩,4,none,0,some ⟨b167,0,none⟩,1,none,0⟩) ⟨(row_own (b:=b165) (cs:=([(0,1),(0,2),(0,3),(1,4)]:List Key).flatMap kC) (e:=25) (by simp)),Row.none,(row_own (b:=b167) (cs:=([(0,0)]:List Key).flatMap kC) (e:=25) (by simp)),Row.none⟩ hx8 rfl (by decide)) rfl rfl TL.fin) ?_
   refine DH.pure (i:=24) [(157,_,some 11),(169,_,some 23)] rfl rfl rfl rfl ⟨⟨rfl,rfl,rfl⟩,⟨rfl,rfl,rfl⟩,trivial⟩ (fun _ ext=>TL.pickT hF rfl rfl rfl rfl TL.fin) ?_
   refine DH.pure (i:=25) [(170,_,some 24)] rfl rfl rfl rfl ⟨⟨rfl,rfl,rfl⟩,trivial⟩ (fun _ ext=>TL.move hF rfl rfl TL.fin) ?_
   refine DH.pure (i:=26) [(8,_,none),(171,_,some 25)] rfl rfl rfl rfl ⟨⟨rfl,by kernel_rfl⟩,⟨rfl,rfl,rfl⟩,trivial⟩ (fun _ ext=>TL.on rfl rfl rfl rfl <| TL.move hF rfl rfl TL.fin) ?_
   refine DH.pure (i:=27) [(172,_,some 26),(171,_,some 25)] rfl rfl rfl rfl ⟨⟨rfl,rfl,rfl⟩,⟨rfl,rfl,rfl⟩,trivial⟩ (fun _ ext=>TL.on rfl rfl rfl rfl <| TL.indexAddr hF rfl rfl (hl8.ad (i:=1) (show 1<2 by decide)) (by decide) (show (1:Int)<((2:Nat):Int) by decide) rfl TL.fin) ?_
   refine DH.pure (i:=28) [(173,_,some 27),(171,_,some 25)] rfl rfl rfl rfl ⟨⟨rfl,rfl,rfl⟩,⟨rfl,rfl,rfl⟩,trivial⟩ (fun _ ext=>TL.on rfl rfl rfl rfl <| TL.fieldAddr hF rfl rfl TL.fin) ?_
   refine DH.read (i:=29) [(174,_,some 28),(171,_,some 25)] rfl rfl rfl rfl ⟨⟨rfl,rfl,rfl⟩,⟨rfl,rfl,rfl⟩,trivial⟩ (fun ext=>TL.on rfl rfl rfl rfl <| TL.load hF rfl (show At _ _ _ _ (.int .i64 1) from (hl8.ro.atA (i:=1) (show 1<2 by decide) 0 _ (by rw [show ([x8,y8]:List RH)[1]=y8 from rfl]; unfold rhC; rw [hy8]; rfl))) rfl TL.fin) ?_
   refine DH.pure (i:=30) [(175,_,some 29),(171,_,some 25)] rfl rfl rfl rfl ⟨⟨rfl,rfl,rfl⟩,⟨rfl,rfl,rfl⟩,trivial⟩ (fun _ ext=>TL.on rfl rfl rfl rfl <| TL.bin hF rfl rfl rfl rfl TL.fin) ?_
   refine DH.pure (i:=31) [(171,_,some 25),(176,_,some 30)] rfl rfl rfl rfl ⟨⟨rfl,rfl,rfl⟩,⟨rfl,rfl,rfl⟩,trivial⟩ (fun _ ext=>TL.pickT hF rfl rfl rfl rfl TL.fin) ?_
   refine DH.pure (i:=32) [(177,_,some 31)] rfl rfl rfl rfl ⟨⟨rfl,rfl,rfl⟩,trivial⟩ (fun _ ext=>TL.move hF rfl rfl TL.fin) ?_
   refine DH.pure (i:=33) [(8,_,none),(178,_,some 32)] rfl rfl rfl rfl ⟨⟨rfl,by kernel_rfl⟩,⟨rfl,rfl,rfl⟩,trivial⟩ (fun _ ext=>TL.on rfl rfl rfl rfl <| TL.move hF rfl rfl TL.fin) ?_
   refine DH.pure (i:=34) [(179,_,some 33),(178,_,some 32)] rfl rfl rfl rfl ⟨⟨rfl,rfl,rfl⟩,⟨rfl,rfl,rfl⟩,trivial⟩ (fun _ ext=>TL.on rfl rfl rfl rfl <| TL.indexAddr hF rfl rfl (hl8.ad (i:=1) (show 1<2 by decide)) (by decide) (show (1:Int)<((2:Nat):Int) by decide) rfl TL.fin) ?_
   refine DH.pure (i:=35) [(180,_,some 34),(178,_,some 32)] rfl rfl rfl rfl ⟨⟨rfl,rfl,rfl⟩,⟨rfl,rfl,rfl⟩,trivial⟩ (fun _ ext=>TL.on rfl rfl rfl rfl <| TL.fieldAddr hF rfl rfl TL.fin) ?_
   refine DH.read (i:=36) [(181,_,some 35),(178,_,some 32)] rfl rfl rfl rfl ⟨⟨rfl,rfl,rfl⟩,⟨rfl,rfl,rfl⟩,trivial⟩ (fun ext=>TL.on rfl rfl rfl rfl <| TL.load hF rfl (show At _ _ _ _ (.slice y8.a1 0 y8.c1) from (hl8.ro.atA (i:=1) (show 1<2 by decide) 1 _ (by rw [show ([x8,y8]:List RH)[1]=y8 from rfl]; unfold rhC; rw [hy8]; rfl))) rfl TL.fin) ?_
   refine DH.pure (i:=37) [(182,_,some 36),(178,_,some 32)] rfl rfl rfl rfl ⟨⟨rfl,rfl,rfl⟩,⟨rfl,rfl,rfl⟩,trivial⟩ (fun _ ext=>TL.on rfl rfl rfl rfl <| TL.len hF rfl rfl TL.fin) ?_
   refine DH.pure (i:=38) [(8,_,none),(178,_,some 32)] rfl rfl rfl rfl ⟨⟨rfl,by kernel_rfl⟩,⟨rfl,rfl,rfl⟩,trivial⟩ (fun _ ext=>TL.on rfl rfl rfl rfl <| TL.move hF rfl rfl TL.fin) ?_
   refine DH.pure (i:=39) [(184,_,some 38),(178,_,some 32)] rfl rfl rfl rfl ⟨⟨rfl,rfl,rfl⟩,⟨rfl,rfl,rfl⟩,trivial⟩ (fun _ ext=>TL.on rfl rfl rfl rfl <| TL.indexAddr hF rfl rfl (hl8.ad (i:=1) (show 1<2 by decide)) (by decide) (show (1:Int)<((2:Nat):Int) by decide) rfl TL.fin) ?_
   refine DH.pure (i:=40) [(185,_,some 39),(178,_,some 32)] rfl rfl rfl rfl ⟨⟨rfl,rfl,rfl⟩,⟨rfl,rfl,rfl⟩,trivial⟩ (fun _ ext=>TL.on rfl rfl rfl rfl <| TL.fieldAddr hF rfl rfl TL.fin) ?_
   refine DH.read (i:=41) [(186,_,some 40),(178,_,some 32)] rfl rfl rfl rfl ⟨⟨rfl,rfl,rfl⟩,⟨rfl,rfl,rfl⟩,trivial⟩ (fun ext=>TL.on rfl rfl rfl rfl <| TL.load hF rfl (show At _ _ _ _ (.slice y8.a2 0 y8.c2) from (hl8.ro.atA (i:=1) (show 1<2 by decide) 2 _ (by rw [show ([x8,y8]:List RH)[1]=y8 from rfl]; unfold rhC; rw [hy8]; rfl))) rfl TL.fin) ?_
   refine DH.pure (i:=42) [(187,_,some 41),(178,_,some 32)] rfl rfl rfl rfl ⟨⟨rfl,rfl,rfl⟩,⟨rfl,rfl,rfl⟩,trivial⟩ (fun _ ext=>TL.on rfl rfl rfl rfl <| TL.len hF rfl rfl TL.fin) ?_
   refine DH.pure (i:=43) [(183,_,some 37),(188,_,some 42),(178,_,some 32)] rfl rfl rfl rfl ⟨⟨rfl,rfl,rfl⟩,⟨rfl,rfl,rfl⟩,⟨rfl,rfl,rfl⟩,trivial⟩ (fun _ ext=>TL.on rfl rfl rfl rfl <| TL.add hF rfl rfl (by decide) (by decide) rfl TL.fin) ?_
   refine DH.pure (i:=44) [(8,_,none),(178,_,some 32)] rfl rfl rfl rfl ⟨⟨rfl,by kernel_rfl⟩,⟨rfl,rfl,rfl⟩,trivial⟩ (fun _ ext=>TL.on rfl rfl rfl rfl <| TL.move hF rfl rfl TL.fin) ?_
   refine DH.pure (i:=45) [(190,_,some 44),(178,_,some 32)] rfl rfl rfl rfl ⟨⟨rfl,rfl,rfl⟩,⟨rfl,rfl,rfl⟩,trivial⟩ (fun _ ext=>TL.on rfl rfl rfl rfl <| TL.indexAddr hF rfl rfl (hl8.ad (i:=1) (show 1<2 by decide)) (by decide) (show (1:Int)<((2:Nat):Int) by decide) rfl TL.fin) ?_
   refine DH.pure (i:=46) [(191,_,some 45),(178,_,some 32)] rfl rfl rfl rfl ⟨⟨rfl,rfl,rfl⟩,⟨rfl,rfl,rfl⟩,trivial⟩ (fun _ ext=>TL.on rfl rfl rfl rfl <| TL.fieldAddr hF rfl rfl TL.fin) ?_
   refine DH.read (i:=47) [(192,_,some 46),(178,_,some 32)] rfl rfl rfl rfl ⟨⟨rfl,rfl,rfl⟩,⟨rfl,rfl,rfl⟩,trivial⟩ (fun ext=>TL.on rfl rfl rfl rfl <| TL.load hF rfl (show At _ _ _ _ (.slice y8.a4 0 y8.c4) from (hl8.ro.atA (i:=1) (show 1<2 by decide) 4 _ (by rw [show ([x8,y8]:List RH)[1]=y8 from rfl]; unfold rhC; rw [hy8]; rfl))) rfl TL.fin) ?_
   refine DH.pure (i:=48) [(193,_,some 47),(178,_,some 32)] rfl rfl rfl rfl ⟨⟨rfl,rfl,rfl⟩,⟨rfl,rfl,rfl⟩,trivial⟩ (fun _ ext=>TL.on rfl rfl rfl rfl <| TL.len hF rfl rfl TL.fin) ?_
   refine DH.pure (i:=49) [(189,_,some 43),(194,_,some 48),(178,_,some 32)] rfl rfl rfl rfl ⟨⟨rfl,rfl,rfl⟩,⟨rfl,rfl,rfl⟩,⟨rfl,rfl,rfl⟩,trivial⟩ (fun _ ext=>TL.on rfl rfl rfl rfl <| TL.add hF rfl rfl (by decide) (by decide) rfl TL.fin) ?_
   refine DH.pure (i:=50) [(195,_,some 49),(178,_,some 32)] rfl rfl rfl rfl ⟨⟨rfl,rfl,rfl⟩,⟨rfl,rfl,rfl⟩,trivial⟩ (fun _ ext=>TL.on rfl rfl rfl rfl <| TL.bin hF rfl rfl rfl rfl TL.fin) ?_
   refine DH.pure (i:=51) [(178,_,some 32),(196,_,some 50)] rfl rfl rfl rfl ⟨⟨rfl,rfl,rfl⟩,⟨rfl,rfl,rfl⟩,trivial⟩ (fun _ ext=>TL.pickT hF rfl rfl rfl rfl TL.fin) ?_
   refine DH.pure (i:=52) [(197,_,some 51)] rfl rfl rfl rfl ⟨⟨rfl,rfl,rfl⟩,trivial⟩ (fun _ ext=>TL.move hF rfl rfl TL.fin) ?_
   refine DH.pure (i:=53) [(10,_,none),(198,_,some 52)] rfl rfl rfl rfl ⟨⟨rfl,by kernel_rfl⟩,⟨rfl,rfl,rfl⟩,trivial⟩ (fun _ ext=>TL.on rfl rfl rfl rfl <| TL.move hF rfl rfl TL.fin) ?_
   refine DH.pure (i:=54) [(199,_,some 53),(198,_,some 52)] rfl rfl rfl rfl ⟨⟨rfl,rfl,rfl⟩,⟨rfl,rfl,rfl⟩,trivial⟩ (fun _ ext=>TL.on rfl rfl rfl rfl <| TL.indexAddr hF rfl rfl (hl10.ad (i:=0) (show 0<1 by decide)) (by decide) (show (0:Int)<((1:Nat):Int) by decide) rfl TL.fin) ?_
   refine DH.read (i:=55) [(200,_,some 54),(198,_,some 52)] rfl rfl rfl rfl ⟨⟨rfl,rfl,rfl⟩,⟨rfl,rfl,rfl⟩,trivial⟩ (fun ext=>TL.on rfl rfl rfl rfl <| TL.loadA hF (rhC x10) rfl rfl (hl10.ro.atA (i:=0) (show 0<1 by decide)) rfl TL.fin) ?_
   refine DH.pure (i:=56) [(198,_,some 52)] rfl rfl rfl rfl ⟨⟨rfl,rfl,rfl⟩,trivial⟩ (fun _ ext=>TL.on rfl rfl rfl rfl <| TL.callV hF (at_fn 0 1) rfl rfl TL.fin) ?_
   refine DH.pure (i:=57) [(198,_,some 52)] rfl rfl rfl rfl ⟨⟨rfl,rfl,rfl⟩,trivial⟩ (fun _ ext=>TL.on rfl rfl rfl rfl <| TL.callV hF (at_fn 0 2) rfl rfl TL.fin) ?_
   refine DH.pure (i:=59) [(198,_,some 52)] rfl rfl rfl rfl ⟨⟨rfl,rfl,rfl⟩,trivial⟩ (fun _ ext=>TL.on rfl rfl rfl rfl <| TL.callV hF (at_fn 0 0) rfl rfl TL.fin) ?_
   refine DH.pure (i:=60) [(198,_,some 52)] rfl rfl rfl rfl ⟨⟨rfl,rfl,rfl⟩,trivial⟩ (fun _ ext=>TL.on rfl rfl rfl rfl <| TL.callV hF (at_fn 0 3) rfl rfl TL.fin) ?_
   refine DH.pure (i:=61) [(198,_,some 52)] rfl rfl rfl rfl ⟨⟨rfl,rfl,rfl⟩,trivial⟩ (fun _ ext=>TL.on rfl rfl rfl rfl <| TL.callV hF (at_fn 1 4) rfl rfl TL.fin) ?_
   refine DH.k2 (by kernel_rfl) (by kernel_rfl) (by kernel_rfl) (by kernel_rfl) (HBK.mk (h:=58) [55] [(202,_,some 56),(203,_,some 57),(198,_,some 52)] rfl rfl rfl ⟨⟨rfl,rfl,rfl⟩,⟨rfl,rfl,rfl⟩,⟨rfl,rfl,rfl⟩,trivial⟩ (by kernel_rfl) (fun ext=>?_)) (HBK.mk (h:=62) [55] [(205,_,some 59),(206,_,some 60),(207,_,some 61),(198,_,some 52)] rfl rfl rfl ⟨⟨rfl,rfl,rfl⟩,⟨rfl,rfl,rfl⟩,⟨rfl,rfl,rfl⟩,⟨rfl,rfl,rfl⟩,trivial⟩ (by kernel_rfl) (fun ext=>?_))
   ·refine TL.on rfl rfl rfl rfl ?_
    refine TL.buildSlice hF rfl (cs:=(([(0,1),(0,2)]:List Key).flatMap kC).toArray) (e:=25) (fun w=>by kernel_rfl) rfl (fun b204=>?_)
    refine TL.finK ⟨⟨_,rfl,_,_,[(200,_,some 54),(198,_,some 52)],rfl,rfl,⟨⟨rfl,rfl,rfl⟩,⟨rfl,rfl,rfl⟩,trivial⟩,fun ext=>TL.on rfl rfl rfl rfl <| TL.loadA hF (rhC x10) rfl rfl (hl10.ro.atA (i:=0) (show 0<1 by decide)) rfl TL.fin⟩,trivial⟩ ?_
    refine DH.k1 (by kernel_rfl) (by kernel_rfl) (by kernel_rfl) (by kernel_rfl) (HBK.mk (h:=62) [55] [(205,_,some 59),(206,_,some 60),(207,_,some 61),(198,_,some 52)] rfl rfl rfl ⟨⟨rfl,rfl,rfl⟩,⟨rfl,rfl,rfl⟩,⟨rfl,rfl,rfl⟩,⟨rfl,rfl,rfl⟩,trivial⟩ (by kernel_rfl) (fun ext=>?_))
    refine TL.on rfl rfl rfl rfl ?_
    refine TL.buildSlice hF rfl (cs:=(([(0,0),(0,3),(1,4)]:List Key).flatMap kC).toArray) (e:=25) (fun w=>by kernel_rfl) rfl (fun b208=>?_)
    refine TL.finK ⟨⟨_,rfl,_,_,[(200,_,some 54),(198,_,some 52)],rfl,rfl,⟨⟨rfl,rfl,rfl⟩,⟨rfl,rfl,rfl⟩,trivial⟩,fun ext=>TL.on rfl rfl rfl rfl <| TL.loadA hF (rhC x10) rfl rfl (hl10.ro.atA (i:=0) (show 0<1 by decide)) rfl TL.fin⟩,trivial⟩ ?_
    refine DH.pure (i:=63) [(204,_,some 58),(208,_,some 62),(198,_,some 52)] rfl rfl rfl rfl ⟨⟨rfl,rfl,rfl⟩,⟨rfl,rfl,rfl⟩,⟨rfl,rfl,rfl⟩,trivial⟩ (fun _ ext=>TL.on rfl rfl rfl rfl <| TL.build hF rfl (r:=.agg (rhC ⟨⟨1,[(0,1),(0,2)],[],[(0,0),(0,3),(1,4)],[]⟩,some ⟨b204,0,none⟩,2,none,0,some ⟨b208,0,none⟩,3,none,0⟩).toArray) (fun w=>by kernel_rfl) rfl TL.fin) ?_
    refine DH.done [(209,_),(208,_),(204,_),(207,_),(206,_),(205,_),(203,_),(202,_),(201,_),(200,_),(199,_),(198,_),(197,_),(196,_),(195,_),(194,_),(193,_),(192,_),(191,_),(190,_),(189,_),(188,_),(187,_),(186,_),(185,_),(184,_),(183,_),(182,_),(181,_),(180,_),(179,_),(178,_),(177,_),(176,_),(175,_),(174,_),(173,_),(172,_),(171,_),(170,_),(169,_),(168,_),(167,_),(165,_),(166,_),(164,_),(163,_),(162,_),(161,_),(160,_),(159,_),(158,_),(157,_),(156,_),(155,_),(151,_),(154,_),(153,_),(152,_),(150,_),(149,_),(148,_),(147,_),(146,_)] [_,_,_] (by kernel_rfl) (by kernel_rfl) (by kernel_rfl) (by kernel_rfl) rfl rfl ?_
    refine TL.on rfl rfl rfl rfl ?_
    refine TL.callV hF (round_true (r:=⟨1,[(0,1),(0,2)],[],[(0,0),(0,3),(1,4)],[]⟩) ((hl10.item _ (by simp)).up (by simp)) (y:=⟨⟨1,[(0,1),(0,2)],[],[(0,0),(0,3),(1,4)],[]⟩,some ⟨b204,0,none⟩,2,none,0,some ⟨b208,0,none⟩,3,none,0⟩) ⟨(row_own (b:=b204) (cs:=([(0,1),(0,2)]:List Key).flatMap kC) (e:=25) (by simp)),Row.none,(row_own (b:=b208) (cs:=([(0,0),(0,3),(1,4)]:List Key).flatMap kC) (e:=25) (by simp)),Row.none⟩ hx10 rfl (by decide)) rfl rfl ?_
    refine TL.pickT hF rfl rfl rfl rfl ?_
    refine TL.assign hF rfl rfl ?_
    refine TL.nil ?_
    refine TQ.then_n ?_
    refine T.ret ?_
    exact TQ.retsF [0] _ hb rfl rfl rfl (fun _=>rfl)
   ·refine TL.on rfl rfl rfl rfl ?_
    refine TL.buildSlice hF rfl (cs:=(([(0,0),(0,3),(1,4)]:List Key).flatMap kC).toArray) (e:=25) (fun w=>by kernel_rfl) rfl (fun b208=>?_)
    refine TL.finK ⟨⟨_,rfl,_,_,[(200,_,some 54),(198,_,some 52)],rfl,rfl,⟨⟨rfl,rfl,rfl⟩,⟨rfl,rfl,rfl⟩,trivial⟩,fun ext=>TL.on rfl rfl rfl rfl <| TL.loadA hF (rhC x10) rfl rfl (hl10.ro.atA (i:=0) (show 0<1 by decide)) rfl TL.fin⟩,trivial⟩ ?_
    refine DH.k1 (by kernel_rfl) (by kernel_rfl) (by kernel_rfl) (by kernel_rfl) (HBK.mk (h:=58) [55] [(202,_,some 56),(203,_,some 57),(198,_,some 52)] rfl rfl rfl ⟨⟨rfl,rfl,rfl⟩,⟨rfl,rfl,rfl⟩,⟨rfl,rfl,rfl⟩,trivial⟩ (by kernel_rfl) (fun ext=>?_))
    refine TL.on rfl rfl rfl rfl ?_
    refine TL.buildSlice hF rfl (cs:=(([(0,1),(0,2)]:List Key).flatMap kC).toArray) (e:=25) (fun w=>by kernel_rfl) rfl (fun b204=>?_)
    refine TL.finK ⟨⟨_,rfl,_,_,[(200,_,some 54),(198,_,some 52)],rfl,rfl,⟨⟨rfl,rfl,rfl⟩,⟨rfl,rfl,rfl⟩,trivial⟩,fun ext=>TL.on rfl rfl rfl rfl <| TL.loadA hF (rhC x10) rfl rfl (hl10.ro.atA (i:=0) (show 0<1 by decide)) rfl TL.fin⟩,trivial⟩ ?_
    refine DH.pure (i:=63) [(204,_,some 58),(208,_,some 62),(198,_,some 52)] rfl rfl rfl rfl ⟨⟨rfl,rfl,rfl⟩,⟨rfl,rfl,rfl⟩,⟨rfl,rfl,rfl⟩,trivial⟩ (fun _ ext=>TL.on rfl rfl rfl rfl <| TL.build hF rfl (r:=.agg (rhC ⟨⟨1,[(0,1),(0,2)],[],[(0,0),(0,3),(1,4)],[]⟩,some ⟨b204,0,none⟩,2,none,0,some ⟨b208,0,none⟩,3,none,0⟩).toArray) (fun w=>by kernel_rfl) rfl TL.fin) ?_
    refine DH.done [(209,_),(204,_),(208,_),(207,_),(206,_),(205,_),(203,_),(202,_),(201,_),(200,_),(199,_),(198,_),(197,_),(196,_),(195,_),(194,_),(193,_),(192,_),(191,_),(190,_),(189,_),(188,_),(187,_),(186,_),(185,_),(184,_),(183,_),(182,_),(181,_),(180,_),(179,_),(178,_),(177,_),(176,_),(175,_),(174,_),(173,_),(172,_),(171,_),(170,_),(169,_),(168,_),(167,_),(165,_),(166,_),(164,_),(163,_),(162,_),(161,_),(160,_),(159,_),(158,_),(157,_),(156,_),(155,_),(151,_),(154,_),(153,_),(152,_),(150,_),(149,_),(148,_),(147,_),(146,_)] [_,_,_] (by kernel_rfl) (by kernel_rfl) (by kernel_rfl) (by kernel_rfl) rfl rfl ?_
    refine TL.on rfl rfl rfl rfl ?_
    refine TL.callV hF (round_true (r:=⟨1,[(0,1),(0,2)],[],[(0,0),(0,3),(1,4)],[]⟩) ((hl10.item _ (by simp)).up (by simp)) (y:=⟨⟨1,[(0,1),(0,2)],[],[(0,0),(0,3),(1,4)],[]⟩,some ⟨b204,0,none⟩,2,none,0,some ⟨b208,0,none⟩,3,none,0⟩) ⟨(row_own (b:=b204) (cs:=([(0,1),(0,2)]:List Key).flatMap kC) (e:=25) (by simp)),Row.none,(row_own (b:=b208) (cs:=([(0,0),(0,3),(1,4)]:List Key).flatMap kC) (e:=25) (by simp)),Row.none⟩ hx10 rfl (by decide)) rfl rfl ?_
    refine TL.pickT hF rfl rfl rfl rfl ?_
    refine TL.assign hF rfl rfl ?_
    refine TL.nil ?_
    refine TQ.then_n ?_
    refine T.ret ?_
    exact TQ.retsF [0] _ hb rfl rfl rfl (fun _=>rfl)
  ·refine TL.on rfl rfl rfl rfl ?_
   refine TL.buildSlice hF rfl (cs:=(([(0,0)]:List Key).flatMap kC).toArray) (e:=25) (fun w=>by kernel_rfl) rfl (fun b167=>?_)
   refine TL.finK ⟨⟨_,rfl,_,_,[(159,_,some 13),(157,_,some 11)],rfl,rfl,⟨⟨rfl,rfl,rfl⟩,⟨rfl,rfl,rfl⟩,trivial⟩,fun ext=>TL.on rfl rfl rfl rfl <| TL.loadA hF (rhC x8) rfl rfl (hl8.ro.atA (i:=0) (show 0<2 by decide)) rfl TL.fin⟩,trivial⟩ ?_
   refine DH.k1 (by kernel_rfl) (by kernel_rfl) (by kernel_rfl) (by kernel_rfl) (HBK.mk (h:=19) [14] [(161,_,some 15),(162,_,some 16),(163,_,some 17),(164,_,some 18),(157,_,some 11)] rfl rfl rfl ⟨⟨rfl,rfl,rfl⟩,⟨rfl,rfl,rfl⟩,⟨rfl,rfl,rfl⟩,⟨rfl,rfl,rfl⟩,⟨rfl,rfl,rfl⟩,trivial⟩ (by kernel_rfl) (fun ext=>?_))
   refine TL.on rfl rfl rfl rfl ?_
   refine TL.buildSlice hF rfl (cs:=(([(0,1),(0,2),(0,3),(1,4)]:List Key).flatMap kC).toArray) (e:=25) (fun w=>by kernel_rfl) rfl (fun b165=>?_)
   refine TL.finK ⟨⟨_,rfl,_,_,[(159,_,some 13),(157,_,some 11)],rfl,rfl,⟨⟨rfl,rfl,rfl⟩,⟨rfl,rfl,rfl⟩,trivial⟩,fun ext=>TL.on rfl rfl rfl rfl <| TL.loadA hF (rhC x8) rfl rfl (hl8.ro.atA (i:=0) (show 0<2 by decide)) rfl TL.fin⟩,trivial⟩ ?_
   refine DH.pure (i:=22) [(165,_,some 19),(167,_,some 21),(157,_,some 11)] rfl rfl rfl rfl ⟨⟨rfl,rfl,rfl⟩,⟨rfl,rfl,rfl⟩,⟨rfl,rfl,rfl⟩,trivial⟩ (fun _ ext=>TL.on rfl rfl rfl rfl <| TL.build hF rfl (r:=.agg (rhC ⟨⟨1,[(0,1),(0,2),(0,3),(1,4)],[],[(0,0)],[]⟩,some ⟨b165,0,none⟩,4,none,0,some ⟨b167,0,none⟩,1,none,0⟩).toArray) (fun w=>by kernel_rfl) rfl TL.fin) ?_
   refine DH.read (i:=23) [(160,_,some 14),(168,_,some 22),(157,_,some 11)] rfl rfl rfl rfl ⟨⟨rfl,rfl,rfl⟩,⟨rfl,rfl,rfl⟩,⟨rfl,rfl,rfl⟩,trivial⟩ (fun ext=>TL.on rfl rfl rfl rfl <| TL.callV hF (round_true (r:=⟨1,[(0,1),(0,2),(0,3),(1,4)],[],[(0,0)],[]⟩) ((hl8.item _ (by simp)).up (by simp)) (y:=⟨⟨1,[(0,1),(0,2),(0,3),(1,4)],[],[(0,0)],[]⟩,some ⟨b165,0,none⟩,4,none,0,some ⟨b167,0,none⟩,1,none,0⟩) ⟨(row_own (b:=b165) (cs:=([(0,1),(0,2),(0,3),(1,4)]:List Key).flatMap kC) (e:=25) (by simp)),Row.none,(row_own (b:=b167) (cs:=([(0,0)]:List Key).flatMap kC) (e:=25) (by simp)),Row.none⟩ hx8 rfl (by decide)) rfl rfl TL.fin) ?_
   refine DH.pure (i:=24) [(157,_,some 11),(169,_,some 23)] rfl rfl rfl rfl ⟨⟨rfl,rfl,rfl⟩,⟨rfl,rfl,rfl⟩,trivial⟩ (fun _ ext=>TL.pickT hF rfl rfl rfl rfl TL.fin) ?_
   refine DH.pure (i:=25) [(170,_,some 24)] rfl rfl rfl rfl ⟨⟨rfl,rfl,rfl⟩,trivial⟩ (fun _ ext=>TL.move hF rfl rfl TL.fin) ?_
   refine DH.pure (i:=26) [(8,_,none),(171,_,some 25)] rfl rfl rfl rfl ⟨⟨rfl,by kernel_rfl⟩,⟨rfl,rfl,rfl⟩,trivial⟩ (fun _ ext=>TL.on rfl rfl rfl rfl <| TL.move hF rfl rfl TL.fin) ?_
   refine DH.pure (i:=27) [(172,_,some 26),(171,_,some 25)] rfl rfl rfl rfl ⟨⟨rfl,rfl,rfl⟩,⟨rfl,rfl,rfl⟩,trivial⟩ (fun _ ext=>TL.on rfl rfl rfl rfl <| TL.indexAddr hF rfl rfl (hl8.ad (i:=1) (show 1<2 by decide)) (by decide) (show (1:Int)<((2:Nat):Int) by decide) rfl TL.fin) ?_
   refine DH.pure (i:=28) [(173,_,some 27),(171,_,some 25)] rfl rfl rfl rfl ⟨⟨rfl,rfl,rfl⟩,⟨rfl,rfl,rfl⟩,trivial⟩ (fun _ ext=>TL.on rfl rfl rfl rfl <| TL.fieldAddr hF rfl rfl TL.fin) ?_
   refine DH.read (i:=29) [(174,_,some 28),(171,_,some 25)] rfl rfl rfl rfl ⟨⟨rfl,rfl,rfl⟩,⟨rfl,rfl,rfl⟩,trivial⟩ (fun ext=>TL.on rfl rfl rfl rfl <| TL.load hF rfl (show At _ _ _ _ (.int .i64 1) from (hl8.ro.atA (i:=1) (show 1<2 by decide) 0 _ (by rw [show ([x8,y8]:List RH)[1]=y8 from rfl]; unfold rhC; rw [hy8]; rfl))) rfl TL.fin) ?_
   refine DH.pure (i:=30) [(175,_,some 29),(171,_,some 25)] rfl rfl rfl rfl ⟨⟨rfl,rfl,rfl⟩,⟨rfl,rfl,rfl⟩,trivial⟩ (fun _ ext=>TL.on rfl rfl rfl rfl <| TL.bin hF rfl rfl rfl rfl TL.fin) ?_
   refine DH.pure (i:=31) [(171,_,some 25),(176,_,some 30)] rfl rfl rfl rfl ⟨⟨rfl,rfl,rfl⟩,⟨rfl,rfl,rfl⟩,trivial⟩ (fun _ ext=>TL.pickT hF rfl rfl rfl rfl TL.fin) ?_
   refine DH.pure (i:=32) [(177,_,some 31)] rfl rfl rfl rfl ⟨⟨rfl,rfl,rfl⟩,trivial⟩ (fun _ ext=>TL.move hF rfl rfl TL.fin) ?_
   refine DH.pure (i:=33) [(8,_,none),(178,_,some 32)] rfl rfl rfl rfl ⟨⟨rfl,by kernel_rfl⟩,⟨rfl,rfl,rfl⟩,trivial⟩ (fun _ ext=>TL.on rfl rfl rfl rfl <| TL.move hF rfl rfl TL.fin) ?_
   refine DH.pure (i:=34) [(179,_,some 33),(178,_,some 32)] rfl rfl rfl rfl ⟨⟨rfl,rfl,rfl⟩,⟨rfl,rfl,rfl⟩,trivial⟩ (fun _ ext=>TL.on rfl rfl rfl rfl <| TL.indexAddr hF rfl rfl (hl8.ad (i:=1) (show 1<2 by decide)) (by decide) (show (1:Int)<((2:Nat):Int) by decide) rfl TL.fin) ?_
   refine DH.pure (i:=35) [(180,_,some 34),(178,_,some 32)] rfl rfl rfl rfl ⟨⟨rfl,rfl,rfl⟩,⟨rfl,rfl,rfl⟩,trivial⟩ (fun _ ext=>TL.on rfl rfl rfl rfl <| TL.fieldAddr hF rfl rfl TL.fin) ?_
   refine DH.read (i:=36) [(181,_,some 35),(178,_,some 32)] rfl rfl rfl rfl ⟨⟨rfl,rfl,rfl⟩,⟨rfl,rfl,rfl⟩,trivial⟩ (fun ext=>TL.on rfl rfl rfl rfl <| TL.load hF rfl (show At _ _ _ _ (.slice y8.a1 0 y8.c1) from (hl8.ro.atA (i:=1) (show 1<2 by decide) 1 _ (by rw [show ([x8,y8]:List RH)[1]=y8 from rfl]; unfold rhC; rw [hy8]; rfl))) rfl TL.fin) ?_
   refine DH.pure (i:=37) [(182,_,some 36),(178,_,some 32)] rfl rfl rfl rfl ⟨⟨rfl,rfl,rfl⟩,⟨rfl,rfl,rfl⟩,trivial⟩ (fun _ ext=>TL.on rfl rfl rfl rfl <| TL.len hF rfl rfl TL.fin) ?_
   refine DH.pure (i:=38) [(8,_,none),(178,_,some 32)] rfl rfl rfl rfl ⟨⟨rfl,by kernel_rfl⟩,⟨rfl,rfl,rfl⟩,trivial⟩ (fun _ ext=>TL.on rfl rfl rfl rfl <| TL.move hF rfl rfl TL.fin) ?_
   refine DH.pure (i:=39) [(184,_,some 38),(178,_,some 32)] rfl rfl rfl rfl ⟨⟨rfl,rfl,rfl⟩,⟨rfl,rfl,rfl⟩,trivial⟩ (fun _ ext=>TL.on rfl rfl rfl rfl <| TL.indexAddr hF rfl rfl (hl8.ad (i:=1) (show 1<2 by decide)) (by decide) (show (1:Int)<((2:Nat):Int) by decide) rfl TL.fin) ?_
   refine DH.pure (i:=40) [(185,_,some 39),(178,_,some 32)] rfl rfl rfl rfl ⟨⟨rfl,rfl,rfl⟩,⟨rfl,rfl,rfl⟩,trivial⟩ (fun _ ext=>TL.on rfl rfl rfl rfl <| TL.fieldAddr hF rfl rfl TL.fin) ?_
   refine DH.read (i:=41) [(186,_,some 40),(178,_,some 32)] rfl rfl rfl rfl ⟨⟨rfl,rfl,rfl⟩,⟨rfl,rfl,rfl⟩,trivial⟩ (fun ext=>TL.on rfl rfl rfl rfl <| TL.load hF rfl (show At _ _ _ _ (.slice y8.a2 0 y8.c2) from (hl8.ro.atA (i:=1) (show 1<2 by decide) 2 _ (by rw [show ([x8,y8]:List RH)[1]=y8 from rfl]; unfold rhC; rw [hy8]; rfl))) rfl TL.fin) ?_
   refine DH.pure (i:=42) [(187,_,some 41),(178,_,some 32)] rfl rfl rfl rfl ⟨⟨rfl,rfl,rfl⟩,⟨rfl,rfl,rfl⟩,trivial⟩ (fun _ ext=>TL.on rfl rfl rfl rfl <| TL.len hF rfl rfl TL.fin) ?_
   refine DH.pure (i:=43) [(183,_,some 37),(188,_,some 42),(178,_,some 32)] rfl rfl rfl rfl ⟨⟨rfl,rfl,rfl⟩,⟨rfl,rfl,rfl⟩,⟨rfl,rfl,rfl⟩,trivial⟩ (fun _ ext=>TL.on rfl rfl rfl rfl <| TL.add hF rfl rfl (by decide) (by decide) rfl TL.fin) ?_
   refine DH.pure (i:=44) [(8,_,none),(178,_,some 32)] rfl rfl rfl rfl ⟨⟨rfl,by kernel_rfl⟩,⟨rfl,rfl,rfl⟩,trivial⟩ (fun _ ext=>TL.on rfl rfl rfl rfl <| TL.move hF rfl rfl TL.fin) ?_
   refine DH.pure (i:=45) [(190,_,some 44),(178,_,some 32)] rfl rfl rfl rfl ⟨⟨rfl,rfl,rfl⟩,⟨rfl,rfl,rfl⟩,trivial⟩ (fun _ ext=>TL.on rfl rfl rfl rfl <| TL.indexAddr hF rfl rfl (hl8.ad (i:=1) (show 1<2 by decide)) (by decide) (show (1:Int)<((2:Nat):Int) by decide) rfl TL.fin) ?_
   refine DH.pure (i:=46) [(191,_,some 45),(178,_,some 32)] rfl rfl rfl rfl ⟨⟨rfl,rfl,rfl⟩,⟨rfl,rfl,rfl⟩,trivial⟩ (fun _ ext=>TL.on rfl rfl rfl rfl <| TL.fieldAddr hF rfl rfl TL.fin) ?_
   refine DH.read (i:=47) [(192,_,some 46),(178,_,some 32)] rfl rfl rfl rfl ⟨⟨rfl,rfl,rfl⟩,⟨rfl,rfl,rfl⟩,trivial⟩ (fun ext=>TL.on rfl rfl rfl rfl <| TL.load hF rfl (show At _ _ _ _ (.slice y8.a4 0 y8.c4) from (hl8.ro.atA (i:=1) (show 1<2 by decide) 4 _ (by rw [show ([x8,y8]:List RH)[1]=y8 from rfl]; unfold rhC; rw [hy8]; rfl))) rfl TL.fin) ?_
   refine DH.pure (i:=48) [(193,_,some 47),(178,_,some 32)] rfl rfl rfl rfl ⟨⟨rfl,rfl,rfl⟩,⟨rfl,rfl,rfl⟩,trivial⟩ (fun _ ext=>TL.on rfl rfl rfl rfl <| TL.len hF rfl rfl TL.fin) ?_
   refine DH.pure (i:=49) [(189,_,some 43),(194,_,some 48),(178,_,some 32)] rfl rfl rfl rfl ⟨⟨rfl,rfl,rfl⟩,⟨rfl,rfl,rfl⟩,⟨rfl,rfl,rfl⟩,trivial⟩ (fun _ ext=>TL.on rfl rfl rfl rfl <| TL.add hF rfl rfl (by decide) (by decide) rfl TL.fin) ?_
   refine DH.pure (i:=50) [(195,_,some 49),(178,_,some 32)] rfl rfl rfl rfl ⟨⟨rfl,rfl,rfl⟩,⟨rfl,rfl,rfl⟩,trivial⟩ (fun _ ext=>TL.on rfl rfl rfl rfl <| TL.bin hF rfl rfl rfl rfl TL.fin) ?_
   refine DH.pure (i:=51) [(178,_,some 32),(196,_,some 50)] rfl rfl rfl rfl ⟨⟨rfl,rfl,rfl⟩,⟨rfl,rfl,rfl⟩,trivial⟩ (fun _ ext=>TL.pickT hF rfl rfl rfl rfl TL.fin) ?_
   refine DH.pure (i:=52) [(197,_,some 51)] rfl rfl rfl rfl ⟨⟨rfl,rfl,rfl⟩,trivial⟩ (fun _ ext=>TL.move hF rfl rfl TL.fin) ?_
   refine DH.pure (i:=53) [(10,_,none),(198,_,some 52)] rfl rfl rfl rfl ⟨⟨rfl,by kernel_rfl⟩,⟨rfl,rfl,rfl⟩,trivial⟩ (fun _ ext=>TL.on rfl rfl rfl rfl <| TL.move hF rfl rfl TL.fin) ?_
   refine DH.pure (i:=54) [(199,_,some 53),(198,_,some 52)] rfl rfl rfl rfl ⟨⟨rfl,rfl,rfl⟩,⟨rfl,rfl,rfl⟩,trivial⟩ (fun _ ext=>TL.on rfl rfl rfl rfl <| TL.indexAddr hF rfl rfl (hl10.ad (i:=0) (show 0<1 by decide)) (by decide) (show (0:Int)<((1:Nat):Int) by decide) rfl TL.fin) ?_
   refine DH.read (i:=55) [(200,_,some 54),(198,_,some 52)] rfl rfl rfl rfl ⟨⟨rfl,rfl,rfl⟩,⟨rfl,rfl,rfl⟩,trivial⟩ (fun ext=>TL.on rfl rfl rfl rfl <| TL.loadA hF (rhC x10) rfl rfl (hl10.ro.atA (i:=0) (show 0<1 by decide)) rfl TL.fin) ?_
   refine DH.pure (i:=56) [(198,_,some 52)] rfl rfl rfl rfl ⟨⟨rfl,rfl,rfl⟩,trivial⟩ (fun _ ext=>TL.on rfl rfl rfl rfl <| TL.callV hF (at_fn 0 1) rfl rfl TL.fin) ?_
   refine DH.pure (i:=57) [(198,_,some 52)] rfl rfl rfl rfl ⟨⟨rfl,rfl,rfl⟩,trivial⟩ (fun _ ext=>TL.on rfl rfl rfl rfl <| TL.callV hF (at_fn 0 2) rfl rfl TL.fin) ?_
   refine DH.pure (i:=59) [(198,_,some 52)] rfl rfl rfl rfl ⟨⟨rfl,rfl,rfl⟩,trivial⟩ (fun _ ext=>TL.on rfl rfl rfl rfl <| TL.callV hF (at_fn 0 0) rfl rfl TL.fin) ?_
   refine DH.pure (i:=60) [(198,_,some 52)] rfl rfl rfl rfl ⟨⟨rfl,rfl,rfl⟩,trivial⟩ (fun _ ext=>TL.on rfl rfl rfl rfl <| TL.callV hF (at_fn 0 3) rfl rfl TL.fin) ?_
   refine DH.pure (i:=61) [(198,_,some 52)] rfl rfl rfl rfl ⟨⟨rfl,rfl,rfl⟩,trivial⟩ (fun _ ext=>TL.on rfl rfl rfl rfl <| TL.callV hF (at_fn 1 4) rfl rfl TL.fin) ?_
   refine DH.k2 (by kernel_rfl) (by kernel_rfl) (by kernel_rfl) (by kernel_rfl) (HBK.mk (h:=58) [55] [(202,_,some 56),(203,_,some 57),(198,_,some 52)] rfl rfl rfl ⟨⟨rfl,rfl,rfl⟩,⟨rfl,rfl,rfl⟩,⟨rfl,rfl,rfl⟩,trivial⟩ (by kernel_rfl) (fun ext=>?_)) (HBK.mk (h:=62) [55] [(205,_,some 59),(206,_,some 60),(207,_,some 61),(198,_,some 52)] rfl rfl rfl ⟨⟨rfl,rfl,rfl⟩,⟨rfl,rfl,rfl⟩,⟨rfl,rfl,rfl⟩,⟨rfl,rfl,rfl⟩,trivial⟩ (by kernel_rfl) (fun ext=>?_))
   ·refine TL.on rfl rfl rfl rfl ?_
    refine TL.buildSlice hF rfl (cs:=(([(0,1),(0,2)]:List Key).flatMap kC).toArray) (e:=25) (fun w=>by kernel_rfl) rfl (fun b204=>?_)
    refine TL.finK ⟨⟨_,rfl,_,_,[(200,_,some 54),(198,_,some 52)],rfl,rfl,⟨⟨rfl,rfl,rfl⟩,⟨rfl,rfl,rfl⟩,trivial⟩,fun ext=>TL.on rfl rfl rfl rfl <| TL.loadA hF (rhC x10) rfl rfl (hl10.ro.atA (i:=0) (show 0<1 by decide)) rfl TL.fin⟩,trivial⟩ ?_
    refine DH.k1 (by kernel_rfl) (by kernel_rfl) (by kernel_rfl) (by kernel_rfl) (HBK.mk (h:=62) [55] [(205,_,some 59),(206,_,some 60),(207,_,some 61),(198,_,some 52)] rfl rfl rfl ⟨⟨rfl,rfl,rfl⟩,⟨rfl,rfl,rfl⟩,⟨rfl,rfl,rfl⟩,⟨rfl,rfl,rfl⟩,trivial⟩ (by kernel_rfl) (fun ext=>?_))
    refine TL.on rfl rfl rfl rfl ?_
    refine TL.buildSlice hF rfl (cs:=(([(0,0),(0,3),(1,4)]:List Key).flatMap kC).toArray) (e:=25) (fun w=>by kernel_rfl) rfl (fun b208=>?_)
    refine TL.finK ⟨⟨_,rfl,_,_,[(200,_,some 54),(198,_,some 52)],rfl,rfl,⟨⟨rfl,rfl,rfl⟩,⟨rfl,rfl,rfl⟩,trivial⟩,fun ext=>TL.on rfl rfl rfl rfl <| TL.loadA hF (rhC x10) rfl rfl (hl10.ro.atA (i:=0) (show 0<1 by decide)) rfl TL.fin⟩,trivial⟩ ?_
    refine DH.pure (i:=63) [(204,_,some 58),(208,_,some 62),(198,_,some 52)] rfl rfl rfl rfl ⟨⟨rfl,rfl,rfl⟩,⟨rfl,rfl,rfl⟩,⟨rfl,rfl,rfl⟩,trivial⟩ (fun _ ext=>TL.on rfl rfl rfl rfl <| TL.build hF rfl (r:=.agg (rhC ⟨⟨1,[(0,1),(0,2)],[],[(0,0),(0,3),(1,4)],[]⟩,some ⟨b204,0,none⟩,2,none,0,some ⟨b208,0,none⟩,3,none,0⟩).toArray) (fun w=>by kernel_rfl) rfl TL.fin) ?_
    refine DH.done [(209,_),(208,_),(204,_),(207,_),(206,_),(205,_),(203,_),(202,_),(201,_),(200,_),(199,_),(198,_),(197,_),(196,_),(195,_),(194,_),(193,_),(192,_),(191,_),(190,_),(189,_),(188,_),(187,_),(186,_),(185,_),(184,_),(183,_),(182,_),(181,_),(180,_),(179,_),(178,_),(177,_),(176,_),(175,_),(174,_),(173,_),(172,_),(171,_),(170,_),(169,_),(168,_),(165,_),(167,_),(166,_),(164,_),(163,_),(162,_),(161,_),(160,_),(159,_),(158,_),(157,_),(156,_),(155,_),(151,_),(154,_),(153,_),(152,_),(150,_),(149,_),(148,_),(147,_),(146,_)] [_,_,_] (by kernel_rfl) (by kernel_rfl) (by kernel_rfl) (by kernel_rfl) rfl rfl ?_
    refine TL.on rfl rfl rfl rfl ?_
    refine TL.callV hF (round_true (r:=⟨1,[(0,1),(0,2)],[],[(0,0),(0,3),(1,4)],[]⟩) ((hl10.item _ (by simp)).up (by simp)) (y:=⟨⟨1,[(0,1),(0,2)],[],[(0,0),(0,3),(1,4)],[]⟩,some ⟨b204,0,none⟩,2,none,0,some ⟨b208,0,none⟩,3,none,0⟩) ⟨(row_own (b:=b204) (cs:=([(0,1),(0,2)]:List Key).flatMap kC) (e:=25) (by simp)),Row.none,(row_own (b:=b208) (cs:=([(0,0),(0,3),(1,4)]:List Key).flatMap kC) (e:=25) (by simp)),Row.none⟩ hx10 rfl (by decide)) rfl rfl ?_
    refine TL.pickT hF rfl rfl rfl rfl ?_
    refine TL.assign hF rfl rfl ?_
    refine TL.nil ?_
    refine TQ.then_n ?_
    refine T.ret ?_
    exact TQ.retsF [0] _ hb rfl rfl rfl (fun _=>rfl)
   ·refine TL.on rfl rfl rfl rfl ?_
    refine TL.buildSlice hF rfl (cs:=(([(0,0),(0,3),(1,4)]:List Key).flatMap kC).toArray) (e:=25) (fun w=>by kernel_rfl) rfl (fun b208=>?_)
    refine TL.finK ⟨⟨_,rfl,_,_,[(200,_,some 54),(198,_,some 52)],rfl,rfl,⟨⟨rfl,rfl,rfl⟩,⟨rfl,rfl,rfl⟩,trivial⟩,fun ext=>TL.on rfl rfl rfl rfl <| TL.loadA hF (rhC x10) rfl rfl (hl10.ro.atA (i:=0) (show 0<1 by decide)) rfl TL.fin⟩,trivial⟩ ?_
    refine DH.k1 (by kernel_rfl) (by kernel_rfl) (by kernel_rfl) (by kernel_rfl) (HBK.mk (h:=58) [55] [(202,_,some 56),(203,_,some 57),(198,_,some 52)] rfl rfl rfl ⟨⟨rfl,rfl,rfl⟩,⟨rfl,rfl,rfl⟩,⟨rfl,rfl,rfl⟩,trivial⟩ (by kernel_rfl) (fun ext=>?_))
    refine TL.on rfl rfl rfl rfl ?_
    refine TL.buildSlice hF rfl (cs:=(([(0,1),(0,2)]:List Key).flatMap kC).toArray) (e:=25) (fun w=>by kernel_rfl) rfl (fun b204=>?_)
    refine TL.finK ⟨⟨_,rfl,_,_,[(200,_,some 54),(198,_,some 52)],rfl,rfl,⟨⟨rfl,rfl,rfl⟩,⟨rfl,rfl,rfl⟩,trivial⟩,fun ext=>TL.on rfl rfl rfl rfl <| TL.loadA hF (rhC x10) rfl rfl (hl10.ro.atA (i:=0) (show 0<1 by decide)) rfl TL.fin⟩,trivial⟩ ?_
    refine DH.pure (i:=63) [(204,_,some 58),(208,_,some 62),(198,_,some 52)] rfl rfl rfl rfl ⟨⟨rfl,rfl,rfl⟩,⟨rfl,rfl,rfl⟩,⟨rfl,rfl,rfl⟩,trivial⟩ (fun _ ext=>TL.on rfl rfl rfl rfl <| TL.build hF rfl (r:=.agg (rhC ⟨⟨1,[(0,1),(0,2)],[],[(0,0),(0,3),(1,4)],[]⟩,some ⟨b204,0,none⟩,2,none,0,some ⟨b208,0,none⟩,3,none,0⟩).toArray) (fun w=>by kernel_rfl) rfl TL.fin) ?_
    refine DH.done [(209,_),(204,_),(208,_),(207,_),(206,_),(205,_),(203,_),(202,_),(201,_),(200,_),(199,_),(198,_),(197,_),(196,_),(195,_),(194,_),(193,_),(192,_),(191,_),(190,_),(189,_),(188,_),(187,_),(186,_),(185,_),(184,_),(183,_),(182,_),(181,_),(180,_),(179,_),(178,_),(177,_),(176,_),(175,_),(174,_),(173,_),(172,_),(171,_),(170,_),(169,_),(168,_),(165,_),(167,_),(166,_),(164,_),(163,_),(162,_),(161,_),(160,_),(159,_),(158,_),(157,_),(156,_),(155,_),(151,_),(154,_),(153,_),(152,_),(150,_),(149,_),(148,_),(147,_),(146,_)] [_,_,_] (by kernel_rfl) (by kernel_rfl) (by kernel_rfl) (by kernel_rfl) rfl rfl ?_
    refine TL.on rfl rfl rfl rfl ?_
    refine TL.callV hF (round_true (r:=⟨1,[(0,1),(0,2)],[],[(0,0),(0,3),(1,4)],[]⟩) ((hl10.item _ (by simp)).up (by simp)) (y:=⟨⟨1,[(0,1),(0,2)],[],[(0,0),(0,3),(1,4)],[]⟩,some ⟨b204,0,none⟩,2,none,0,some ⟨b208,0,none⟩,3,none,0⟩) ⟨(row_own (b:=b204) (cs:=([(0,1),(0,2)]:List Key).flatMap kC) (e:=25) (by simp)),Row.none,(row_own (b:=b208) (cs:=([(0,0),(0,3),(1,4)]:List Key).flatMap kC) (e:=25) (by simp)),Row.none⟩ hx10 rfl (by decide)) rfl rfl ?_
    refine TL.pickT hF rfl rfl rfl rfl ?_
    refine TL.assign hF rfl rfl ?_
    refine TL.nil ?_
    refine TQ.then_n ?_
    refine T.ret ?_
    exact TQ.retsF [0] _ hb rfl rfl rfl (fun _=>rfl)
end Go.Proofs.YtdiacobmhkmljaaGreatDoor
/- The reference: what is formed; Check; what is asked. -/
namespace Go.Proofs.YtdiacobmhkmljaaGreatDoor
open Go.Sl
variable {S:Nat→Prop} {w0:World} {η:Heap}
theorem partsS_is {q:Int} (h0:0≤q) (h6:q<7):([0,0,1,2,2,3,1]:List Int).getD q.toNat 0=partsS q:=by
 have:q=0∨q=1∨q=2∨q=3∨q=4∨q=5∨q=6:=by omega
 rcases this with rfl | rfl | rfl | rfl | rfl | rfl | rfl <;> decide
theorem at_getD {a:Option Addr} {xs:List Int} (h:Row S w0 η a (ints xs)) {i:Nat} (hi:i<xs.length):At S w0 η (sAt a (i*1)) (.int .i64 (xs.getD i 0)):=by
 have:=h.int hi
 rwa [List.getD_eq_getElem?_getD,List.getElem?_eq_getElem hi]
set_option maxHeartbeats 2000000 in
theorem partsR_fn (op : Int) :
  Rt Tryz.prog 61 [.int .i64 op].toArray S w0 η (fun v η'=>v = .int .i64 (partsS op)∧η'=η):=by
 have hF:=open_wide
 refine Rt.of (fn:=Tryz.f61) Tryz.func61 rfl rfl ?_
 refine T.seq ?_
 refine T.region ?_
 refine TL.assign hF rfl rfl ?_
 refine TL.nil ?_
 refine TQ.then_n ?_
 refine T.seq ?_
 refine T.seq ?_
 refine T.region ?_
 refine TL.move hF rfl rfl ?_
 refine TL.callV hF (Lies_fn op 0 6) rfl rfl ?_
 refine TL.not hF rfl rfl ?_
 refine TL.nil ?_
 refine TQ.then_n ?_
 refine T.cond _ rfl (fun ht5=>?_) (fun ht5=>?_)
 ·refine T.seq ?_
  refine T.region ?_
  refine TL.assign hF rfl rfl ?_
  refine TL.nil ?_
  refine TQ.then_n ?_
  refine T.ret ?_
  refine TQ.then_r ?_
  refine TQ.rets [2] _ rfl rfl rfl ⟨?_,rfl⟩
  have hr:¬ (0≤op∧op≤6):=by have h:=ht5; simp at h; omega
  rw [parts_out (by omega)]; rfl
 ·refine T.skip ?_
  refine TQ.then_n ?_
  refine T.seq ?_
  refine T.region ?_
  have hr:0≤op∧op≤6:=by simpa using ht5
  refine TL.buildSlice hF rfl (cs:=#[.int .i64 0,.int .i64 0,.int .i64 1,.int .i64 2,.int .i64 2,.int .i64 3,.int .i64 1]) (e:=3) (fun w=>by kernel_rfl) rfl (fun b6=>?_)
  refine TL.move hF rfl rfl ?_
  refine TL.indexAddr hF rfl rfl ⟨_,rfl,rfl⟩ hr.1 (by omega) rfl ?_
  refine TL.load hF rfl (at_getD (xs:=[0,0,1,2,2,3,1]) (row_own (cs:=[.int .i64 0,.int .i64 0,.int .i64 1,.int .i64 2,.int .i64 2,.int .i64 3,.int .i64 1]) (e:=3) (by simp)) (i:=op.toNat) (by simp; omega)) rfl ?_
  refine TL.assign hF rfl rfl ?_
  refine TL.nil ?_
  refine TQ.then_n ?_
  refine T.ret ?_
  refine TQ.pop ?_
  refine TQ.rets [2] _ rfl rfl rfl ⟨?_,rfl⟩
  rw [← partsS_is hr.1 (by omega)]; rfl
theorem deps_app (l:List Ex) (x:Ex):depsE (l++[x])=max (depsE l) (depE x):=by
 induction l with
 | nil=>simp [depsE]
 | cons y r ih=>simp only [List.cons_append,depsE,ih]; omega
theorem deps_take {l:List TE} {k:Nat} (h:k<l.length):depsE ((l.take (k+1)).map TE.ex)=max (depsE ((l.take k).map TE.ex)) (depE l[k].ex):=by
 rw [List.take_succ_eq_append_getElem h,List.map_append]; exact deps_app _ _
theorem dep_eq (e:TE):depE e.ex=depsE (e.l.map TE.ex)+1:=by rw [ex_eq,depE]
set_option maxHeartbeats 2000000 in
theorem deep_step {left : Nat} (IH : ∀ m : Nat, m + 1 = left → ∀ x : TE, Tr S w0 [] x → ∀ η : Heap, Rt Tryz.prog 36 [teV x, .int .i64 (m : Int)].toArray S w0 η (fun v η' => v = .int .i64 ((min (depE x.ex) (m + 1) : Nat) : Int) ∧ η' = η)) (e : TE) (he : Tr S w0 [] e) (hleft : left ≤ 100) :
  Rt Tryz.prog 36 [teV e,.int .i64 (left:Int)].toArray S w0 η (fun v η'=>v = .int .i64 ((min (depE e.ex) (left+1):Nat):Int)∧η'=η):=by
 have hlen:=he.len
 have hF:=open_wide
 refine Rt.of (fn:=Tryz.f36) Tryz.func36 rfl rfl ?_
 refine T.seq ?_
 refine T.region ?_
 refine TL.box hF rfl rfl (fun b2=>?_)
 refine TL.assign hF rfl rfl ?_
 refine TL.nil ?_
 refine TQ.then_n ?_
 refine T.seq ?_
 refine T.region ?_
 refine TL.assign hF rfl rfl ?_
 refine TL.nil ?_
 refine TQ.then_n ?_
 refine T.seq ?_
 refine T.seq ?_
 refine T.region ?_
 refine TL.assign hF rfl rfl ?_
 refine TL.nil ?_
 refine TQ.then_n ?_
 refine T.block ?_
 refine T.loop (ι:=Nat) (fun k=>k≤e.l.length) (fun k=>[(1,.int .i64 (left:Int)),(2,ptr b2),(4,.int .i64 0),(5,.int .i64 ((min (depsE ((e.l.take k).map TE.ex)) left:Nat):Int)),(6,.int .i64 (k:Int))]) (fun _=>[(b2,Obj.cells #[.int .i64 e.op,.int .i64 e.n,.slice e.a e.l.length e.c] 87 (0,0))]::η) (fun k=>e.l.length - k) 0 (Nat.zero_le _) ⟨rfl,rfl,rfl,by simp [depsE]; rfl,rfl,trivial⟩ rfl ?_
 rintro k hk
 refine T.seq ?_
 refine T.seq ?_
 refine T.region ?_
 refine TL.move hF rfl rfl ?_
 refine TL.fieldAddr hF rfl rfl ?_
 refine TL.load hF rfl (own_mem (b:=b2) (cs:=#[.int .i64 e.op,.int .i64 e.n,.slice e.a e.l.length e.c]) (e:=87) (fz:=(0,0)) (by simp) rfl) rfl ?_
 refine TL.len hF rfl rfl ?_
 refine TL.bin hF rfl rfl rfl rfl ?_
 refine TL.move hF rfl rfl ?_
 refine TL.gd (t:=12) rfl (fun g3_12=>?_) (fun g3_12=>?_)
 ·refine TL.on rfl rfl rfl (decide_eq_true g3_12) ?_
  refine TL.move hF rfl rfl ?_
  refine TL.on rfl rfl rfl (decide_eq_true g3_12) ?_
  refine TL.bin hF rfl rfl rfl rfl ?_
  refine TL.pickT hF rfl (decide_eq_true g3_12) rfl rfl ?_
  refine TL.nil ?_
  refine TQ.then_n ?_
  first | refine T.cond_d rfl (fun ht15=>?_) (fun ht15=>?_) | refine T.cond _ rfl (fun ht15=>?_) (fun ht15=>?_)
  ·refine T.skip ?_
   refine TQ.then_n ?_
   refine T.seq ?_
   refine T.block ?_
   refine T.region ?_
   refine TL.move hF rfl rfl ?_
   refine TL.fieldAddr hF rfl rfl ?_
   refine TL.load hF rfl (own_mem (b:=b2) (cs:=#[.int .i64 e.op,.int .i64 e.n,.slice e.a e.l.length e.c]) (e:=87) (fz:=(0,0)) (by simp) rfl) rfl ?_
   refine TL.move hF rfl rfl ?_
   have hkl:k<e.l.length:=by have h:(k:Int)<(e.l.length:Int):=g3_12; omega
   have hl0:0<left:=by have h:(left:Int)>0:=ht15; omega
   refine TL.indexAddr hF rfl rfl (he.fs.ad hkl) (by omega) (by omega) rfl ?_
   refine TL.loadA hF (teC e.l[k]) rfl rfl (he.fs.ro.atA (i:=k) hkl) rfl ?_
   refine TL.move hF rfl rfl ?_
   refine TL.sub hF rfl rfl (by omega) (by omega) rfl ?_
   obtain ⟨m,rfl⟩:∃ m,left=m+1:=⟨left - 1,by omega⟩
   have q:=IH m rfl e.l[k] (he.part hkl) ([(b2,Obj.cells #[.int .i64 e.op,.int .i64 e.n,.slice e.a e.l.length e.c] 87 (0,0))]::η)
   rw [show ((m:Nat):Int)=((m+1:Nat):Int)-1 by omega] at q
   refine TL.callV hF q rfl rfl ?_
   refine TL.max2 hF rfl rfl rfl ?_
   refine TL.assign hF rfl rfl ?_
   refine TL.nil ?_
   refine TQ.block_n ?_
   refine TQ.then_n ?_
   refine T.region ?_
   refine TL.move hF rfl rfl ?_
   refine TL.add hF rfl rfl (by omega) (by omega) rfl ?_
   refine TL.assign hF rfl rfl ?_
   refine TL.nil ?_
   refine TQ.round (k+1) (by omega) (by omega) ⟨rfl,rfl,rfl,congrArg (fun z=>some (Value.int .i64 z)) (by rw [deps_take hkl]; omega),rfl,trivial⟩ rfl
  ·refine T.exit ?_
   refine TQ.then_x ?_
   refine TQ.then_x ?_
   refine TQ.block_x ?_
   refine TQ.then_n ?_
   refine T.seq ?_
   refine T.region ?_
   refine TL.move hF rfl rfl ?_
   refine TL.add hF rfl rfl (by omega) (by omega) rfl ?_
   refine TL.assign hF rfl rfl ?_
   refine TL.nil ?_
   refine TQ.then_n ?_
   refine T.ret ?_
   refine TQ.pop ?_
   refine TQ.rets [4] _ rfl rfl rfl ?_
   exact ⟨congrArg (Value.int .i64) (by have h:¬ (left:Int)>0:=ht15; have:=dep_pos e.ex; omega),rfl⟩
 ·refine TL.off hF rfl rfl rfl (decide_eq_false g3_12) rfl ?_
  refine TL.off hF rfl rfl rfl (decide_eq_false g3_12) rfl ?_
  refine TL.pickF hF rfl (decide_eq_false g3_12) rfl rfl ?_
  refine TL.nil ?_
  refine TQ.then_n ?_
  refine T.cond_f rfl rfl ?_
  refine T.exit ?_
  refine TQ.then_x ?_
  refine TQ.then_x ?_
  refine TQ.block_x ?_
  refine TQ.then_n ?_
  refine T.seq ?_
  refine T.region ?_
  refine TL.move hF rfl rfl ?_
  refine TL.add hF rfl rfl (by omega) (by omega) rfl ?_
  refine TL.assign hF rfl rfl ?_
  refine TL.nil ?_
  refine TQ.then_n ?_
  refine T.ret ?_
  refine TQ.pop ?_
  refine TQ.rets [4] _ rfl rfl rfl ?_
  exact ⟨congrArg (Value.int .i64) (by have h:¬ (k:Int)<(e.l.length:Int):=g3_12; rw [dep_eq e,List.take_of_length_le (by omega)]; omega),rfl⟩
theorem deep_fn:∀ (left:Nat),left≤100→∀ x:TE,Tr S w0 [] x→∀ η:Heap,Rt Tryz.prog 36 [teV x,.int .i64 (left:Int)].toArray S w0 η (fun v η'=>v = .int .i64 ((min (depE x.ex) (left+1):Nat):Int)∧η'=η)
  | 0,h,x,hx,η=>deep_step (fun m hm=>by omega) x hx h
  | n+1,h,x,hx,η=>deep_step (fun m hm y hy η=>by
      obtain rfl:m=n:=by omega
      exact deep_fn m (by omega) y hy η) x hx h
set_option maxHeartbeats 2000000 in
theorem nodes_step (m : Nat) (IH : ∀ x : TE, depE x.ex < m → Tr S w0 [] x → ∀ η : Heap, Rt Tryz.prog 37 [teV x].toArray S w0 η (fun v η' => ∃ N : Int, v = .int .i64 N ∧ 1 ≤ N ∧ N ≤ 41 * (depE x.ex : Int) ∧ ((sizeE x.ex : Int) ≤ 40 → N = sizeE x.ex) ∧ (40 < (sizeE x.ex : Int) → 40 < N) ∧ η' = η)) (e : TE) (hm : depE e.ex ≤ m) (he : Tr S w0 [] e) (hd : depE e.ex ≤ 20) :
  Rt Tryz.prog 37 [teV e].toArray S w0 η (fun v η'=>∃ N:Int,v = .int .i64 N∧1≤N∧N≤41*(depE e.ex:Int)∧((sizeE e.ex:Int)≤40→N=sizeE e.ex)∧(40<(sizeE e.ex:Int)→40<N)∧η'=η):=by
 have hlen:=he.len
 have hF:=open_wide
 refine Rt.of (fn:=Tryz.f37) Tryz.func37 rfl rfl ?_
 refine T.seq ?_
 refine T.region ?_
 refine TL.box hF rfl rfl (fun b1=>?_)
 refine TL.assign hF rfl rfl ?_
 refine TL.nil ?_
 refine TQ.then_n ?_
 refine T.seq ?_
 refine T.region ?_
 refine TL.assign hF rfl rfl ?_
 refine TL.nil ?_
 refine TQ.then_n ?_
 refine T.seq ?_
 refine T.seq ?_
 refine T.region ?_
 refine TL.assign hF rfl rfl ?_
 refine TL.nil ?_
 refine TQ.then_n ?_
 refine T.block ?_
 refine T.loop (ι:=Nat × Int) (fun s=>s.1≤e.l.length∧1≤s.2∧s.2≤40+41*((depE e.ex:Int)-1)∧(1+(szs (e.l.take s.1):Int)≤40→s.2=1+szs (e.l.take s.1))∧(40<1+(szs (e.l.take s.1):Int)→40<s.2)) (fun s=>[(1,ptr b1),(2,.int .i64 0),(3,.int .i64 s.2),(4,.int .i64 (s.1:Int))]) (fun _=>[(b1,Obj.cells #[.int .i64 e.op,.int .i64 e.n,.slice e.a e.l.length e.c] 87 (0,0))]::η) (fun s=>e.l.length - s.1) (0,1) ⟨Nat.zero_le _,by decide,by have:=dep_pos e.ex; dsimp only; omega,fun _=>by simp [szs,sizesE],fun h=>by simp [szs,sizesE] at h⟩ ⟨rfl,rfl,rfl,rfl,trivial⟩ rfl ?_
 rintro ⟨k,n⟩ ⟨hk,hn1,hn2,hn3,hn4⟩
 dsimp only at hk hn1 hn2 hn3 hn4
 refine T.seq ?_
 refine T.seq ?_
 refine T.region ?_
 refine TL.move hF rfl rfl ?_
 refine TL.fieldAddr hF rfl rfl ?_
 refine TL.load hF rfl (own_mem (b:=b1) (cs:=#[.int .i64 e.op,.int .i64 e.n,.slice e.a e.l.length e.c]) (e:=87) (fz:=(0,0)) (by simp) rfl) rfl ?_
 refine TL.len hF rfl rfl ?_
 refine TL.bin hF rfl rfl rfl rfl ?_
 refine TL.move hF rfl rfl ?_
 refine TL.gd (t:=10) rfl (fun g3_10=>?_) (fun g3_10=>?_)
 ·refine TL.on rfl rfl rfl (decide_eq_true g3_10) ?_
  refine TL.move hF rfl rfl ?_
  refine TL.on rfl rfl rfl (decide_eq_true g3_10) ?_
  refine TL.bin hF rfl rfl rfl rfl ?_
  refine TL.pickT hF rfl (decide_eq_true g3_10) rfl rfl ?_
  refine TL.nil ?_
  refine TQ.then_n ?_
  first | refine T.cond_d rfl (fun ht13=>?_) (fun ht13=>?_) | refine T.cond _ rfl (fun ht13=>?_) (fun ht13=>?_)
  ·refine T.skip ?_
   refine TQ.then_n ?_
   refine T.seq ?_
   refine T.block ?_
   refine T.region ?_
   refine TL.move hF rfl rfl ?_
   refine TL.fieldAddr hF rfl rfl ?_
   refine TL.load hF rfl (own_mem (b:=b1) (cs:=#[.int .i64 e.op,.int .i64 e.n,.slice e.a e.l.length e.c]) (e:=87) (fz:=(0,0)) (by simp) rfl) rfl ?_
   refine TL.move hF rfl rfl ?_
   have hkl:k<e.l.length:=by have h:(k:Int)<(e.l.length:Int):=g3_10; omega
   have hn40:n≤40:=ht13
   refine TL.indexAddr hF rfl rfl (he.fs.ad hkl) (by dsimp only; omega) (by dsimp only; omega) rfl ?_
   refine TL.loadA hF (teC e.l[k]) rfl rfl (he.fs.ro.atA (i:=k) hkl) rfl ?_
   have hdk:depE e.l[k].ex+1≤depE e.ex:=by
    have h1:=dep_eq e
    have h2:=deps_iff (l:=e.l) (d:=depsE (e.l.map TE.ex))
    have:=h2.1 (Nat.le_refl _) _ (List.getElem_mem hkl)
    omega
   refine TL.call hF (IH e.l[k] (by omega) (he.part hkl) ([(b1,Obj.cells #[.int .i64 e.op,.int .i64 e.n,.slice e.a e.l.length e.c] 87 (0,0))]::η)) rfl rfl ?_
   rintro _ _ ⟨N,rfl,hN1,hN2,hN3,hN4,rfl⟩
   have hst:=szs_take hkl
   refine TL.add hF rfl rfl (by dsimp only; omega) (by dsimp only; omega) rfl ?_
   refine TL.assign hF rfl rfl ?_
   refine TL.nil ?_
   refine TQ.block_n ?_
   refine TQ.then_n ?_
   refine T.region ?_
   refine TL.move hF rfl rfl ?_
   refine TL.add hF rfl rfl (by dsimp only; omega) (by dsimp only; omega) rfl ?_
   refine TL.assign hF rfl rfl ?_
   refine TL.nil ?_
   refine TQ.round (k+1,n+N) ⟨by dsimp only; omega,by dsimp only; omega,by dsimp only; omega,fun h=>by dsimp only at h ⊢; omega,fun h=>by dsimp only at h ⊢; omega⟩ (by dsimp only; omega) ⟨rfl,rfl,rfl,rfl,trivial⟩ rfl
  ·refine T.exit ?_
   refine TQ.then_x ?_
   refine TQ.then_x ?_
   refine TQ.block_x ?_
   refine TQ.then_n ?_
   refine T.seq ?_
   refine T.region ?_
   refine TL.move hF rfl rfl ?_
   refine TL.assign hF rfl rfl ?_
   refine TL.nil ?_
   refine TQ.then_n ?_
   refine T.ret ?_
   refine TQ.pop ?_
   refine TQ.rets [2] _ rfl rfl rfl ?_
   exact ⟨n,rfl,hn1,by omega,fun h=>by have h2:¬ n≤40:=ht13; have:=szs_le e.l k; rw [size_eq] at h; omega,fun h=>by have h2:¬ n≤40:=ht13; omega,rfl⟩
 ·refine TL.off hF rfl rfl rfl (decide_eq_false g3_10) rfl ?_
  refine TL.off hF rfl rfl rfl (decide_eq_false g3_10) rfl ?_
  refine TL.pickF hF rfl (decide_eq_false g3_10) rfl rfl ?_
  refine TL.nil ?_
  refine TQ.then_n ?_
  refine T.cond_f rfl rfl ?_
  refine T.exit ?_
  refine TQ.then_x ?_
  refine TQ.then_x ?_
  refine TQ.block_x ?_
  refine TQ.then_n ?_
  refine T.seq ?_
  refine T.region ?_
  refine TL.move hF rfl rfl ?_
  refine TL.assign hF rfl rfl ?_
  refine TL.nil ?_
  refine TQ.then_n ?_
  refine T.ret ?_
  refine TQ.pop ?_
  refine TQ.rets [2] _ rfl rfl rfl ?_
  exact ⟨n,rfl,hn1,by omega,fun h=>by have h2:¬ (k:Int)<(e.l.length:Int):=g3_10; rw [List.take_of_length_le (by omega)] at hn3; rw [size_eq] at h ⊢; omega,fun h=>by have h2:¬ (k:Int)<(e.l.length:Int):=g3_10; rw [List.take_of_length_le (by omega)] at hn4; rw [size_eq] at h; omega,rfl⟩
theorem nodes_all:∀ m:Nat,m≤21→∀ x:TE,depE x.ex<m→Tr S w0 [] x→∀ η:Heap,Rt Tryz.prog 37 [teV x].toArray S w0 η (fun v η'=>∃ N:Int,v = .int .i64 N∧1≤N∧N≤41*(depE x.ex:Int)∧((sizeE x.ex:Int)≤40→N=sizeE x.ex)∧(40<(sizeE x.ex:Int)→40<N)∧η'=η)
 | 0,_,x,h=>by omega
 | m+1,hm,x,h=>fun hx _=>nodes_step m (nodes_all m (by omega)) x (by omega) hx (by omega)
theorem nodes_fn (x:TE) (hd:depE x.ex≤20) (hx:Tr S w0 [] x):Rt Tryz.prog 37 [teV x].toArray S w0 η (fun v η'=>∃ N:Int,v = .int .i64 N∧1≤N∧N≤41*(depE x.ex:Int)∧((sizeE x.ex:Int)≤40→N=sizeE x.ex)∧(40<(sizeE x.ex:Int)→40<N)∧η'=η):=nodes_all 21 (Nat.le_refl _) x (by omega) hx η
end Go.Proofs.YtdiacobmhkmljaaGreatDoor
/- The reference: what is right; Check; what is asked. -/
namespace Go.Proofs.YtdiacobmhkmljaaGreatDoor
open Go.Sl
variable {S:Nat→Prop} {w0:World} {η:Heap}
/-- An expression's own node is right. -/
def RK (e:TE) (funs:Int):Prop:=(e.l.length:Int)=partsS e.op∧okN funs e.op e.n=true
theorem right_cases (e : TE) (funs : Int) : (¬ RK e funs ∧ (e.l.length : Int) ≠ partsS e.op) ∨ (RK e funs ∧ (e.l.length : Int) = partsS e.op ∧ e.op = 0 ∧ isW e.n = true) ∨ (¬ RK e funs ∧ (e.l.length : Int) = partsS e.op ∧ e.op = 0 ∧ isW e.n = false) ∨
  (RK e funs∧(e.l.length:Int)=partsS e.op∧e.op=3∧(decide (0≤e.n) && decide (e.n≤9))=true)∨(¬ RK e funs∧(e.l.length:Int)=partsS e.op∧e.op=3∧(decide (0≤e.n) && decide (e.n≤9))=false) ∨
  (RK e funs∧(e.l.length:Int)=partsS e.op∧e.op=6∧(decide (0≤e.n) && decide (e.n≤funs - 1))=true)∨(¬ RK e funs∧(e.l.length:Int)=partsS e.op∧e.op=6∧(decide (0≤e.n) && decide (e.n≤funs - 1))=false) ∨
  (RK e funs∧(e.l.length:Int)=partsS e.op∧e.op≠0∧e.op≠3∧e.op≠6):=by
 unfold RK
 by_cases hp:(e.l.length:Int)=partsS e.op
 ·by_cases h0:e.op=0
  ·rw [okN0 h0]; cases hw:isW e.n <;> simp [hp,h0]
  ·by_cases h3:e.op=3
   ·rw [okN3 h3]; cases hw:(decide (0≤e.n) && decide (e.n≤9)) <;> simp [hp,h3]
   ·by_cases h6:e.op=6
    ·rw [okN6 h6]; cases hw:(decide (0≤e.n) && decide (e.n≤funs - 1)) <;> simp [hp,h6]
    ·rw [okN_ h0 h3 h6]; simp [hp,h0,h3,h6]
 ·simp [hp]
theorem right_no {e:TE} {funs:Int} (h:¬ RK e funs):rightE funs e.ex=false:=by
 rw [← Bool.not_eq_true,right_iff]; exact fun q=>h ⟨q.1,q.2.1⟩
theorem right_part {e:TE} {funs:Int} {k:Nat} (hk:k<e.l.length) (h:(!rightE funs e.l[k].ex)=true):rightE funs e.ex=false:=by
 rw [← Bool.not_eq_true,right_iff]
 intro q
 rw [q.2.2 _ (List.getElem_mem hk)] at h
 cases h
theorem right_yes {e:TE} {funs:Int} {k:Nat} (h:RK e funs) (hk:¬ (k:Int)<(e.l.length:Int)) (ha:∀ x∈e.l.take k,rightE funs x.ex=true):rightE funs e.ex=true:=by
 rw [List.take_of_length_le (by omega)] at ha
 exact right_iff.2 ⟨h.1,h.2,ha⟩
theorem dep_part {e:TE} {k:Nat} (hk:k<e.l.length):depE e.l[k].ex+1≤depE e.ex:=by
 have h1:=dep_eq e
 have h2:=deps_iff (l:=e.l) (d:=depsE (e.l.map TE.ex))
 have:=h2.1 (Nat.le_refl _) _ (List.getElem_mem hk)
 omega
/-- The same, as a truth. -/
def rkB (e:TE) (funs:Int):Bool:=decide ((e.l.length:Int)=partsS e.op) && okN funs e.op e.n
theorem rk_yes {e:TE} {funs:Int} (h:RK e funs):rkB e funs=true:=by unfold rkB; rw [h.2,decide_eq_true h.1]; rfl
theorem rk_no {e:TE} {funs:Int} (h:¬ RK e funs):rkB e funs=false:=by
 rw [← Bool.not_eq_true]; unfold rkB; rw [Bool.and_eq_true,decide_eq_true_eq]; exact fun q=>h ⟨q.1,q.2⟩
theorem rk_is {e:TE} {funs:Int} (h:(!rkB e funs)=false):RK e funs:=by
 have h2:rkB e funs=true:=by cases hx:rkB e funs <;> rw [hx] at h <;> first | rfl | cases h
 unfold rkB at h2; rw [Bool.and_eq_true,decide_eq_true_eq] at h2; exact h2
theorem rk_not {e:TE} {funs:Int} (h:(!rkB e funs)=true):¬ RK e funs:=fun q=>by rw [rk_yes q] at h; cases h
theorem asked_eq {l:List Ex} {cells:List Int} {top:Key}:(((!(decide (1≤(cells.length:Int)) && decide ((cells.length:Int)≤100)) || !(cells.all isW)) || !(decide (0≤top.1) && decide (top.1≤(l.length:Int)-1))) || !(decide (0≤top.2) && decide (top.2≤200))) = !(okCells cells && okTop l top):=by
 unfold okCells okTop
 rw [show decide (1≤(cells.length:Int))=decide (1≤cells.length) from decide_eq_decide.2 (by omega),show decide ((cells.length:Int)≤100)=decide (cells.length≤100) from decide_eq_decide.2 (by omega)]
 simp only [Bool.not_and,Bool.or_assoc]
set_option maxHeartbeats 2000000 in
theorem right_step {funs : Int} (hf1 : 0 ≤ funs) (hf2 : funs ≤ 100) (m : Nat) (IH : ∀ x : TE, depE x.ex < m → Tr S w0 [] x → ∀ η : Heap, Rt Tryz.prog 38 [teV x, .int .i64 funs].toArray S w0 η (fun v η' => v = .bool (rightE funs x.ex) ∧ η' = η)) (e : TE) (hm : depE e.ex ≤ m) (he : Tr S w0 [] e) :
  Rt Tryz.prog 38 [teV e,.int .i64 funs].toArray S w0 η (fun v η'=>v = .bool (rightE funs e.ex)∧η'=η):=by
 have hlen:=he.len
 have hF:=open_wide
 refine Rt.of (fn:=Tryz.f38) Tryz.func38 rfl rfl ?_
 refine T.seq ?_
 refine T.region ?_
 refine TL.box hF rfl rfl (fun b2=>?_)
 refine TL.assign hF rfl rfl ?_
 refine TL.nil ?_
 refine TQ.then_n ?_
 refine T.seq ?_
 refine T.cut (ι:=Unit) (fun _=>True) (fun _=>[(1,.int .i64 funs),(2,ptr b2),(4,.bool false),(47,.bool (!rkB e funs))]) (fun _=>[(b2,Obj.cells #[.int .i64 e.op,.int .i64 e.n,.slice e.a e.l.length e.c] 87 (0,0))]::η) ?_ ?_
 ·rcases right_cases e funs with ⟨hno,h2⟩ | ⟨hok,h2,h3,h4⟩ | ⟨hno,h2,h3,h4⟩ | ⟨hok,h2,h3,h4⟩ | ⟨hno,h2,h3,h4⟩ | ⟨hok,h2,h3,h4⟩ | ⟨hno,h2,h3,h4⟩ | ⟨hok,h2,h3,h4,h5⟩
  ·refine T.draw ?_
   refine DR.stepV [_] rfl [(2,_,none)] rfl rfl ⟨⟨rfl,by kernel_rfl⟩,trivial⟩ (fun ext=>TL.fieldAddr hF rfl rfl TL.fin) ?_
   refine DR.stepV [_,_] rfl [(6,_,some 0)] rfl rfl ⟨⟨rfl,rfl,rfl⟩,trivial⟩ (fun ext=>TL.load hF rfl (own_mem (b:=b2) (cs:=#[.int .i64 e.op,.int .i64 e.n,.slice e.a e.l.length e.c]) (e:=87) (fz:=(0,0)) (List.mem_cons.2 (.inl rfl)) rfl) rfl TL.fin) ?_
   refine DR.stepV [_,_,_] rfl [(7,_,some 1)] rfl rfl ⟨⟨rfl,rfl,rfl⟩,trivial⟩ (fun ext=>TL.len hF rfl rfl TL.fin) ?_
   refine DR.stepV [_,_,_,_] rfl [(2,_,none)] rfl rfl ⟨⟨rfl,by kernel_rfl⟩,trivial⟩ (fun ext=>TL.fieldAddr hF rfl rfl TL.fin) ?_
   refine DR.stepV [_,_,_,_,_] rfl [(9,_,some 3)] rfl rfl ⟨⟨rfl,rfl,rfl⟩,trivial⟩ (fun ext=>TL.load hF rfl (own_mem (b:=b2) (cs:=#[.int .i64 e.op,.int .i64 e.n,.slice e.a e.l.length e.c]) (e:=87) (fz:=(0,0)) (List.mem_cons.2 (.inl rfl)) rfl) rfl TL.fin) ?_
   refine DR.stepV [_,_,_,_,_,_] rfl [(10,_,some 4)] rfl rfl ⟨⟨rfl,rfl,rfl⟩,trivial⟩ (fun ext=>TL.callV hF (partsR_fn e.op) rfl rfl TL.fin) ?_
   refine DR.stepV [_,_,_,_,_,_,_] rfl [(8,_,some 2),(11,_,some 5)] rfl rfl ⟨⟨rfl,rfl,rfl⟩,⟨rfl,rfl,rfl⟩,trivial⟩ (fun ext=>TL.bin hF rfl rfl rfl rfl TL.fin) ?_
   refine DR.stepV [_,_,_,_,_,_,_,_] rfl [(12,_,some 6)] rfl rfl ⟨⟨rfl,rfl,rfl⟩,trivial⟩ (fun ext=>TL.move hF rfl rfl TL.fin) ?_
   refine DR.off [_,_,_,_,_,_,_,_,_] rfl hF rfl rfl rfl rfl rfl (decide_eq_true h2) rfl ?_
   refine DR.off [_,_,_,_,_,_,_,_,_,_] rfl hF rfl rfl rfl rfl rfl (decide_eq_true h2) rfl ?_
   refine DR.off [_,_,_,_,_,_,_,_,_,_,_] rfl hF rfl rfl rfl rfl rfl (decide_eq_true h2) rfl ?_
   refine DR.off [_,_,_,_,_,_,_,_,_,_,_,_] rfl hF rfl rfl rfl rfl rfl (decide_eq_true h2) rfl ?_
   refine DR.offU [_,_,_,_,_,_,_,_,_,_,_,_,_] rfl hF rfl rfl rfl rfl rfl rfl ?_
   refine DR.offU [_,_,_,_,_,_,_,_,_,_,_,_,_,_] rfl hF rfl rfl rfl rfl rfl rfl ?_
   refine DR.offU [_,_,_,_,_,_,_,_,_,_,_,_,_,_,_] rfl hF rfl rfl rfl rfl rfl rfl ?_
   refine DR.offU [_,_,_,_,_,_,_,_,_,_,_,_,_,_,_,_] rfl hF rfl rfl rfl rfl rfl rfl ?_
   refine DR.off [_,_,_,_,_,_,_,_,_,_,_,_,_,_,_,_,_] rfl hF rfl rfl rfl rfl rfl (decide_eq_true h2) rfl ?_
   refine DR.stepV [_,_,_,_,_,_,_,_,_,_,_,_,_,_,_,_,_,_] rfl [(13,_,some 7),(22,_,some 16)] rfl rfl ⟨⟨rfl,rfl,rfl⟩,⟨rfl,rfl,rfl⟩,trivial⟩ (fun ext=>TL.pickT hF rfl (decide_eq_true h2) rfl rfl TL.fin) ?_
   refine DR.stepV [_,_,_,_,_,_,_,_,_,_,_,_,_,_,_,_,_,_,_] rfl [(23,_,some 17)] rfl rfl ⟨⟨rfl,rfl,rfl⟩,trivial⟩ (fun ext=>TL.move hF rfl rfl TL.fin) ?_
   refine DR.off [_,_,_,_,_,_,_,_,_,_,_,_,_,_,_,_,_,_,_,_] rfl hF rfl rfl rfl rfl rfl rfl rfl ?_
   refine DR.off [_,_,_,_,_,_,_,_,_,_,_,_,_,_,_,_,_,_,_,_,_] rfl hF rfl rfl rfl rfl rfl rfl rfl ?_
   refine DR.off [_,_,_,_,_,_,_,_,_,_,_,_,_,_,_,_,_,_,_,_,_,_] rfl hF rfl rfl rfl rfl rfl rfl rfl ?_
   refine DR.off [_,_,_,_,_,_,_,_,_,_,_,_,_,_,_,_,_,_,_,_,_,_,_] rfl hF rfl rfl rfl rfl rfl rfl rfl ?_
   refine DR.offU [_,_,_,_,_,_,_,_,_,_,_,_,_,_,_,_,_,_,_,_,_,_,_,_] rfl hF rfl rfl rfl rfl rfl rfl ?_
   refine DR.offU [_,_,_,_,_,_,_,_,_,_,_,_,_,_,_,_,_,_,_,_,_,_,_,_,_] rfl hF rfl rfl rfl rfl rfl rfl ?_
   refine DR.offU [_,_,_,_,_,_,_,_,_,_,_,_,_,_,_,_,_,_,_,_,_,_,_,_,_,_] rfl hF rfl rfl rfl rfl rfl rfl ?_
   refine DR.offU [_,_,_,_,_,_,_,_,_,_,_,_,_,_,_,_,_,_,_,_,_,_,_,_,_,_,_] rfl hF rfl rfl rfl rfl rfl rfl ?_
   refine DR.off [_,_,_,_,_,_,_,_,_,_,_,_,_,_,_,_,_,_,_,_,_,_,_,_,_,_,_,_] rfl hF rfl rfl rfl rfl rfl rfl rfl ?_
   refine DR.stepV [_,_,_,_,_,_,_,_,_,_,_,_,_,_,_,_,_,_,_,_,_,_,_,_,_,_,_,_,_] rfl [(24,_,some 18),(33,_,some 27)] rfl rfl ⟨⟨rfl,rfl,rfl⟩,⟨rfl,rfl,rfl⟩,trivial⟩ (fun ext=>TL.pickT hF rfl rfl rfl rfl TL.fin) ?_
   refine DR.stepV [_,_,_,_,_,_,_,_,_,_,_,_,_,_,_,_,_,_,_,_,_,_,_,_,_,_,_,_,_,_] rfl [(34,_,some 28)] rfl rfl ⟨⟨rfl,rfl,rfl⟩,trivial⟩ (fun ext=>TL.move hF rfl rfl TL.fin) ?_
   refine DR.off [_,_,_,_,_,_,_,_,_,_,_,_,_,_,_,_,_,_,_,_,_,_,_,_,_,_,_,_,_,_,_] rfl hF rfl rfl rfl rfl rfl rfl rfl ?_
   refine DR.off [_,_,_,_,_,_,_,_,_,_,_,_,_,_,_,_,_,_,_,_,_,_,_,_,_,_,_,_,_,_,_,_] rfl hF rfl rfl rfl rfl rfl rfl rfl ?_
   refine DR.off [_,_,_,_,_,_,_,_,_,_,_,_,_,_,_,_,_,_,_,_,_,_,_,_,_,_,_,_,_,_,_,_,_] rfl hF rfl rfl rfl rfl rfl rfl rfl ?_
   refine DR.off [_,_,_,_,_,_,_,_,_,_,_,_,_,_,_,_,_,_,_,_,_,_,_,_,_,_,_,_,_,_,_,_,_,_] rfl hF rfl rfl rfl rfl rfl rfl rfl ?_
   refine DR.offU [_,_,_,_,_,_,_,_,_,_,_,_,_,_,_,_,_,_,_,_,_,_,_,_,_,_,_,_,_,_,_,_,_,_,_] rfl hF rfl rfl rfl rfl rfl rfl ?_
   refine DR.offU [_,_,_,_,_,_,_,_,_,_,_,_,_,_,_,_,_,_,_,_,_,_,_,_,_,_,_,_,_,_,_,_,_,_,_,_] rfl hF rfl rfl rfl rfl rfl rfl ?_
   refine DR.offU [_,_,_,_,_,_,_,_,_,_,_,_,_,_,_,_,_,_,_,_,_,_,_,_,_,_,_,_,_,_,_,_,_,_,_,_,_] rfl hF rfl rfl rfl rfl rfl rfl ?_
   refine DR.offU [_,_,_,_,_,_,_,_,_,_,_,_,_,_,_,_,_,_,_,_,_,_,_,_,_,_,_,_,_,_,_,_,_,_,_,_,_,_] rfl hF rfl rfl rfl rfl rfl rfl ?_
   refine DR.done [(43,_),(42,_),(41,_),(40,_),(39,_),(38,_),(37,_),(36,_),(35,_),(34,_),(33,_),(32,_),(31,_),(30,_),(29,_),(28,_),(27,_),(26,_),(25,_),(24,_),(23,_),(22,_),(21,_),(20,_),(19,_),(18,_),(17,_),(16,_),(15,_),(14,_),(13,_),(12,_),(11,_),(10,_),(9,_),(8,_),(7,_),(6,_)] [_,_,_,_] mixed (by kernel_rfl) (by kernel_rfl) (by kernel_rfl) rfl rfl ?_
   refine TL.offU hF rfl rfl rfl rfl ?_
   refine TL.offU hF rfl rfl rfl rfl ?_
   refine TL.off hF rfl rfl rfl rfl rfl ?_
   refine TL.pickT hF rfl rfl rfl rfl ?_
   refine TL.nil ?_
   refine TQ.cut () trivial ⟨rfl,rfl,rfl,congrArg (fun z=>some (Value.bool z)) ?_,trivial⟩ rfl
   first | (simp [rk_no hno]; done) | (simp [rk_yes hok]; done) | (simp [rk_no hno,h4]; done) | (simp [rk_yes hok,h4]; done)
  ·refine T.draw ?_
   refine DR.stepV [_] rfl [(2,_,none)] rfl rfl ⟨⟨rfl,by kernel_rfl⟩,trivial⟩ (fun ext=>TL.fieldAddr hF rfl rfl TL.fin) ?_
   refine DR.stepV [_,_] rfl [(6,_,some 0)] rfl rfl ⟨⟨rfl,rfl,rfl⟩,trivial⟩ (fun ext=>TL.load hF rfl (own_mem (b:=b2) (cs:=#[.int .i64 e.op,.int .i64 e.n,.slice e.a e.l.length e.c]) (e:=87) (fz:=(0,0)) (List.mem_cons.2 (.inl rfl)) rfl) rfl TL.fin) ?_
   refine DR.stepV [_,_,_] rfl [(7,_,some 1)] rfl rfl ⟨⟨rfl,rfl,rfl⟩,trivial⟩ (fun ext=>TL.len hF rfl rfl TL.fin) ?_
   refine DR.stepV [_,_,_,_] rfl [(2,_,none)] rfl rfl ⟨⟨rfl,by kernel_rfl⟩,trivial⟩ (fun ext=>TL.fieldAddr hF rfl rfl TL.fin) ?_
   refine DR.stepV [_,_,_,_,_] rfl [(9,_,some 3)] rfl rfl ⟨⟨rfl,rfl,rfl⟩,trivial⟩ (fun ext=>TL.load hF rfl (own_mem (b:=b2) (cs:=#[.int .i64 e.op,.int .i64 e.n,.slice e.a e.l.length e.c]) (e:=87) (fz:=(0,0)) (List.mem_cons.2 (.inl rfl)) rfl) rfl TL.fin) ?_
   refine DR.stepV [_,_,_,_,_,_] rfl [(10,_,some 4)] rfl rfl ⟨⟨rfl,rfl,rfl⟩,trivial⟩ (fun ext=>TL.callV hF (partsR_fn e.op) rfl rfl TL.fin) ?_
   refine DR.stepV [_,_,_,_,_,_,_] rfl [(8,_,some 2),(11,_,some 5)] rfl rfl ⟨⟨rfl,rfl,rfl⟩,⟨rfl,rfl,rfl⟩,trivial⟩ (fun ext=>TL.bin hF rfl rfl rfl rfl TL.fin) ?_
   refine DR.stepV [_,_,_,_,_,_,_,_] rfl [(12,_,some 6)] rfl rfl ⟨⟨rfl,rfl,rfl⟩,trivial⟩ (fun ext=>TL.move hF rfl rfl TL.fin) ?_
   refine DR.stepV [_,_,_,_,_,_,_,_,_] rfl [(2,_,none),(13,_,some 7)] rfl rfl ⟨⟨rfl,by kernel_rfl⟩,⟨rfl,rfl,rfl⟩,trivial⟩ (fun ext=>TL.on rfl rfl rfl (decide_eq_false (fun q=>q h2)) <| TL.fieldAddr hF rfl rfl TL.fin) ?_
   refine DR.stepV [_,_,_,_,_,_,_,_,_,_] rfl [(14,_,some 8),(13,_,some 7)] rfl rfl ⟨⟨rfl,rfl,rfl⟩,⟨rfl,rfl,rfl⟩,trivial⟩ (fun ext=>TL.on rfl rfl rfl (decide_eq_false (fun q=>q h2)) <| TL.load hF rfl (own_mem (b:=b2) (cs:=#[.int .i64 e.op,.int .i64 e.n,.slice e.a e.l.length e.c]) (e:=87) (fz:=(0,0)) (List.mem_cons.2 (.inl rfl)) rfl) rfl TL.fin) ?_
   refine DR.stepV [_,_,_,_,_,_,_,_,_,_,_] rfl [(15,_,some 9),(13,_,some 7)] rfl rfl ⟨⟨rfl,rfl,rfl⟩,⟨rfl,rfl,rfl⟩,trivial⟩ (fun ext=>TL.on rfl rfl rfl (decide_eq_false (fun q=>q h2)) <| TL.bin hF rfl rfl rfl rfl TL.fin) ?_
   refine DR.stepV [_,_,_,_,_,_,_,_,_,_,_,_] rfl [(16,_,some 10),(13,_,some 7)] rfl rfl ⟨⟨rfl,rfl,rfl⟩,⟨rfl,rfl,rfl⟩,trivial⟩ (fun ext=>TL.on rfl rfl rfl (decide_eq_false (fun q=>q h2)) <| TL.move hF rfl rfl TL.fin) ?_
   refine DR.stepV [_,_,_,_,_,_,_,_,_,_,_,_,_] rfl [(2,_,none),(17,_,some 11)] rfl rfl ⟨⟨rfl,by kernel_rfl⟩,⟨rfl,rfl,rfl⟩,trivial⟩ (fun ext=>TL.on rfl rfl rfl (decide_eq_true h3) <| TL.fieldAddr hF rfl rfl TL.fin) ?_
   refine DR.stepV [_,_,_,_,_,_,_,_,_,_,_,_,_,_] rfl [(18,_,some 12),(17,_,some 11)] rfl rfl ⟨⟨rfl,rfl,rfl⟩,⟨rfl,rfl,rfl⟩,trivial⟩ (fun ext=>TL.on rfl rfl rfl (decide_eq_true h3) <| TL.load hF rfl (own_mem (b:=b2) (cs:=#[.int .i64 e.op,.int .i64 e.n,.slice e.a e.l.length e.c]) (e:=87) (fz:=(0,0)) (List.mem_cons.2 (.inl rfl)) rfl) rfl TL.fin) ?_
   refine DR.stepV [_,_,_,_,_,_,_,_,_,_,_,_,_,_,_] rfl [(19,_,some 13),(17,_,some 11)] rfl rfl ⟨⟨rfl,rfl,rfl⟩,⟨rfl,rfl,rfl⟩,trivial⟩ (fun ext=>TL.on rfl rfl rfl (decide_eq_true h3) <| TL.callV hF (IsWord_fn e.n) rfl rfl TL.fin) ?_
   refine DR.stepV [_,_,_,_,_,_,_,_,_,_,_,_,_,_,_,_] rfl [(20,_,some 14),(17,_,some 11)] rfl rfl ⟨⟨rfl,rfl,rfl⟩,⟨rfl,rfl,rfl⟩,trivial⟩ (fun ext=>TL.on rfl rfl rfl (decide_eq_true h3) <| TL.not hF rfl rfl TL.fin) ?_
   refine DR.stepV [_,_,_,_,_,_,_,_,_,_,_,_,_,_,_,_,_] rfl [(17,_,some 11),(21,_,some 15),(13,_,some 7)] rfl rfl ⟨⟨rfl,rfl,rfl⟩,⟨rfl,rfl,rfl⟩,⟨rfl,rfl,rfl⟩,trivial⟩ (fun ext=>TL.on rfl rfl rfl (decide_eq_false (fun q=>q h2)) <| TL.pickT hF rfl (decide_eq_true h3) rfl rfl TL.fin) ?_
   refine DR.stepV [_,_,_,_,_,_,_,_,_,_,_,_,_,_,_,_,_,_] rfl [(13,_,some 7),(22,_,some 16)] rfl rfl ⟨⟨rfl,rfl,rfl⟩,⟨rfl,rfl,rfl⟩,trivial⟩ (fun ext=>TL.pickF hF rfl (decide_eq_false (fun q=>q h2)) rfl rfl TL.fin) ?_
   refine DR.stepV [_,_,_,_,_,_,_,_,_,_,_,_,_,_,_,_,_,_,_] rfl [(23,_,some 17)] rfl rfl ⟨⟨rfl,rfl,rfl⟩,trivial⟩ (fun ext=>TL.move hF rfl rfl TL.fin) ?_
   refine DR.stepV [_,_,_,_,_,_,_,_,_,_,_,_,_,_,_,_,_,_,_,_] rfl [(2,_,none),(24,_,some 18)] rfl rfl ⟨⟨rfl,by kernel_rfl⟩,⟨rfl,rfl,rfl⟩,trivial⟩ (fun ext=>TL.on rfl rfl rfl (by simp [h4]) <| TL.fieldAddr hF rfl rfl TL.fin) ?_
   refine DR.stepV [_,_,_,_,_,_,_,_,_,_,_,_,_,_,_,_,_,_,_,_,_] rfl [(25,_,some 19),(24,_,some 18)] rfl rfl ⟨⟨rfl,rfl,rfl⟩,⟨rfl,rfl,rfl⟩,trivial⟩ (fun ext=>TL.on rfl rfl rfl (by simp [h4]) <| TL.load hF rfl (own_mem (b:=b2) (cs:=#[.int .i64 e.op,.int .i64 e.n,.slice e.a e.l.length e.c]) (e:=87) (fz:=(0,0)) (List.mem_cons.2 (.inl rfl)) rfl) rfl TL.fin) ?_
   refine DR.stepV [_,_,_,_,_,_,_,_,_,_,_,_,_,_,_,_,_,_,_,_,_,_] rfl [(26,_,some 20),(24,_,some 18)] rfl rfl ⟨⟨rfl,rfl,rfl⟩,⟨rfl,rfl,rfl⟩,trivial⟩ (fun ext=>TL.on rfl rfl rfl (by simp [h4]) <| TL.bin hF rfl rfl rfl rfl TL.fin) ?_
   refine DR.stepV [_,_,_,_,_,_,_,_,_,_,_,_,_,_,_,_,_,_,_,_,_,_,_] rfl [(27,_,some 21),(24,_,some 18)] rfl rfl ⟨⟨rfl,rfl,rfl⟩,⟨rfl,rfl,rfl⟩,trivial⟩ (fun ext=>TL.on rfl rfl rfl (by simp [h4]) <| TL.move hF rfl rfl TL.fin) ?_
   refine DR.off [_,_,_,_,_,_,_,_,_,_,_,_,_,_,_,_,_,_,_,_,_,_,_,_] rfl hF rfl rfl rfl rfl rfl (decide_eq_false (by omega)) rfl ?_
   refine DR.off [_,_,_,_,_,_,_,_,_,_,_,_,_,_,_,_,_,_,_,_,_,_,_,_,_] rfl hF rfl rfl rfl rfl rfl (decide_eq_false (by omega)) rfl ?_
   refine DR.off [_,_,_,_,_,_,_,_,_,_,_,_,_,_,_,_,_,_,_,_,_,_,_,_,_,_] rfl hF rfl rfl rfl rfl rfl (decide_eq_false (by omega)) rfl ?_
   refine DR.off [_,_,_,_,_,_,_,_,_,_,_,_,_,_,_,_,_,_,_,_,_,_,_,_,_,_,_] rfl hF rfl rfl rfl rfl rfl (decide_eq_false (by omega)) rfl ?_
   refine DR.stepV [_,_,_,_,_,_,_,_,_,_,_,_,_,_,_,_,_,_,_,_,_,_,_,_,_,_,_,_] rfl [(28,_,some 22),(32,_,some 26),(24,_,some 18)] rfl rfl ⟨⟨rfl,rfl,rfl⟩,⟨rfl,rfl,rfl⟩,⟨rfl,rfl,rfl⟩,trivial⟩ (fun ext=>TL.on rfl rfl rfl (by simp [h4]) <| TL.pickF hF rfl (decide_eq_false (by omega)) rfl rfl TL.fin) ?_
   refine DR.stepV [_,_,_,_,_,_,_,_,_,_,_,_,_,_,_,_,_,_,_,_,_,_,_,_,_,_,_,_,_] rfl [(24,_,some 18),(33,_,some 27)] rfl rfl ⟨⟨rfl,rfl,rfl⟩,⟨rfl,rfl,rfl⟩,trivial⟩ (fun ext=>TL.pickF hF rfl (by simp [h4]) rfl rfl TL.fin) ?_
   refine DR.stepV [_,_,_,_,_,_,_,_,_,_,_,_,_,_,_,_,_,_,_,_,_,_,_,_,_,_,_,_,_,_] rfl [(34,_,some 28)] rfl rfl ⟨⟨rfl,rfl,rfl⟩,trivial⟩ (fun ext=>TL.move hF rfl rfl TL.fin) ?_
   refine DR.stepV [_,_,_,_,_,_,_,_,_,_,_,_,_,_,_,_,_,_,_,_,_,_,_,_,_,_,_,_,_,_,_] rfl [(2,_,none),(35,_,some 29)] rfl rfl ⟨⟨rfl,by kernel_rfl⟩,⟨rfl,rfl,rfl⟩,trivial⟩ (fun ext=>TL.on rfl rfl rfl rfl <| TL.fieldAddr hF rfl rfl TL.fin) ?_
   refine DR.stepV [_,_,_,_,_,_,_,_,_,_,_,_,_,_,_,_,_,_,_,_,_,_,_,_,_,_,_,_,_,_,_,_] rfl [(36,_,some 30),(35,_,some 29)] rfl rfl ⟨⟨rfl,rfl,rfl⟩,⟨rfl,rfl,rfl⟩,trivial⟩ (fun ext=>TL.on rfl rfl rfl rfl <| TL.load hF rfl (own_mem (b:=b2) (cs:=#[.int .i64 e.op,.int .i64 e.n,.slice e.a e.l.length e.c]) (e:=87) (fz:=(0,0)) (List.mem_cons.2 (.inl rfl)) rfl) rfl TL.fin) ?_
   refine DR.stepV [_,_,_,_,_,_,_,_,_,_,_,_,_,_,_,_,_,_,_,_,_,_,_,_,_,_,_,_,_,_,_,_,_] rfl [(37,_,some 31),(35,_,some 29)] rfl rfl ⟨⟨rfl,rfl,rfl⟩,⟨rfl,rfl,rfl⟩,trivial⟩ (fun ext=>TL.on rfl rfl rfl rfl <| TL.bin hF rfl rfl rfl rfl TL.fin) ?_
   refine DR.stepV [_,_,_,_,_,_,_,_,_,_,_,_,_,_,_,_,_,_,_,_,_,_,_,_,_,_,_,_,_,_,_,_,_,_] rfl [(38,_,some 32),(35,_,some 29)] rfl rfl ⟨⟨rfl,rfl,rfl⟩,⟨rfl,rfl,rfl⟩,trivial⟩ (fun ext=>TL.on rfl rfl rfl rfl <| TL.move hF rfl rfl TL.fin) ?_
   refine DR.off [_,_,_,_,_,_,_,_,_,_,_,_,_,_,_,_,_,_,_,_,_,_,_,_,_,_,_,_,_,_,_,_,_,_,_] rfl hF rfl rfl rfl rfl rfl (decide_eq_false (by omega)) rfl ?_
   refine DR.off [_,_,_,_,_,_,_,_,_,_,_,_,_,_,_,_,_,_,_,_,_,_,_,_,_,_,_,_,_,_,_,_,_,_,_,_] rfl hF rfl rfl rfl rfl rfl (decide_eq_false (by omega)) rfl ?_
   refine DR.off [_,_,_,_,_,_,_,_,_,_,_,_,_,_,_,_,_,_,_,_,_,_,_,_,_,_,_,_,_,_,_,_,_,_,_,_,_] rfl hF rfl rfl rfl rfl rfl (decide_eq_false (by omega)) rfl ?_
   refine DR.off [_,_,_,_,_,_,_,_,_,_,_,_,_,_,_,_,_,_,_,_,_,_,_,_,_,_,_,_,_,_,_,_,_,_,_,_,_,_] rfl hF rfl rfl rfl rfl rfl (decide_eq_false (by omega)) rfl ?_
   refine DR.done [(43,_),(42,_),(41,_),(40,_),(39,_),(38,_),(37,_),(36,_),(35,_),(34,_),(33,_),(32,_),(31,_),(30,_),(29,_),(28,_),(27,_),(26,_),(25,_),(24,_),(23,_),(22,_),(21,_),(20,_),(19,_),(18,_),(17,_),(16,_),(15,_),(14,_),(13,_),(12,_),(11,_),(10,_),(9,_),(8,_),(7,_),(6,_)] [_,_,_,_] mixed (by kernel_rfl) (by kernel_rfl) (by kernel_rfl) rfl rfl ?_
   refine TL.off hF rfl rfl rfl (decide_eq_false (by omega)) rfl ?_
   refine TL.off hF rfl rfl rfl (decide_eq_false (by omega)) rfl ?_
   refine TL.on rfl rfl rfl rfl ?_
   refine TL.pickF hF rfl (decide_eq_false (by omega)) rfl rfl ?_
   refine TL.pickF hF rfl rfl rfl rfl ?_
   refine TL.nil ?_
   refine TQ.cut () trivial ⟨rfl,rfl,rfl,congrArg (fun z=>some (Value.bool z)) ?_,trivial⟩ rfl
   first | (simp [rk_no hno]; done) | (simp [rk_yes hok]; done) | (simp [rk_no hno,h4]; done) | (simp [rk_yes hok,h4]; done)
  ·refine T.draw ?_
   refine DR.stepV [_] rfl [(2,_,none)] rfl rfl ⟨⟨rfl,by kernel_rfl⟩,trivial⟩ (fun ext=>TL.fieldAddr hF rfl rfl TL.fin) ?_
   refine DR.stepV [_,_] rfl [(6,_,some 0)] rfl rfl ⟨⟨rfl,rfl,rfl⟩,trivial⟩ (fun ext=>TL.load hF rfl (own_mem (b:=b2) (cs:=#[.int .i64 e.op,.int .i64 e.n,.slice e.a e.l.length e.c]) (e:=87) (fz:=(0,0)) (List.mem_cons.2 (.inl rfl)) rfl) rfl TL.fin) ?_
   refine DR.stepV [_,_,_] rfl [(7,_,some 1)] rfl rfl ⟨⟨rfl,rfl,rfl⟩,trivial⟩ (fun ext=>TL.len hF rfl rfl TL.fin) ?_
   refine DR.stepV [_,_,_,_] rfl [(2,_,none)] rfl rfl ⟨⟨rfl,by kernel_rfl⟩,trivial⟩ (fun ext=>TL.fieldAddr hF rfl rfl TL.fin) ?_
   refine DR.stepV [_,_,_,_,_] rfl [(9,_,some 3)] rfl rfl ⟨⟨rfl,rfl,rfl⟩,trivial⟩ (fun ext=>TL.load hF rfl (own_mem (b:=b2) (cs:=#[.int .i64 e.op,.int .i64 e.n,.slice e.a e.l.length e.c]) (e:=87) (fz:=(0,0)) (List.mem_cons.2 (.inl rfl)) rfl) rfl TL.fin) ?_
   refine DR.stepV [_,_,_,_,_,_] rfl [(10,_,some 4)] rfl rfl ⟨⟨rfl,rfl,rfl⟩,trivial⟩ (fun ext=>TL.callV hF (partsR_fn e.op) rfl rfl TL.fin) ?_
   refine DR.stepV [_,_,_,_,_,_,_] rfl [(8,_,some 2),(11,_,some 5)] rfl rfl ⟨⟨rfl,rfl,rfl⟩,⟨rfl,rfl,rfl⟩,trivial⟩ (fun ext=>TL.bin hF rfl rfl rfl rfl TL.fin) ?_
   refine DR.stepV [_,_,_,_,_,_,_,_] rfl [(12,_,some 6)] rfl rfl ⟨⟨rfl,rfl,rfl⟩,trivial⟩ (fun ext=>TL.move hF rfl rfl TL.fin) ?_
   refine DR.stepV [_,_,_,_,_,_,_,_,_] rfl [(2,_,none),(13,_,some 7)] rfl rfl ⟨⟨rfl,by kernel_rfl⟩,⟨rfl,rfl,rfl⟩,trivial⟩ (fun ext=>TL.on rfl rfl rfl (decide_eq_false (fun q=>q h2)) <| TL.fieldAddr hF rfl rfl TL.fin) ?_
   refine DR.stepV [_,_,_,_,_,_,_,_,_,_] rfl [(14,_,some 8),(13,_,some 7)] rfl rfl ⟨⟨rfl,rfl,rfl⟩,⟨rfl,rfl,rfl⟩,trivial⟩ (fun ext=>TL.on rfl rfl rfl (decide_eq_false (fun q=>q h2)) <| TL.load hF rfl (own_mem (b:=b2) (cs:=#[.int .i64 e.op,.int .i64 e.n,.slice e.a e.l.length e.c]) (e:=87) (fz:=(0,0)) (List.mem_cons.2 (.inl rfl)) rfl) rfl TL.fin) ?_
   refine DR.stepV [_,_,_,_,_,_,_,_,_,_,_] rfl [(15,_,some 9),(13,_,some 7)] rfl rfl ⟨⟨rfl,rfl,rfl⟩,⟨rfl,rfl,rfl⟩,trivial⟩ (fun ext=>TL.on rfl rfl rfl (decide_eq_false (fun q=>q h2)) <| TL.bin hF rfl rfl rfl rfl TL.fin) ?_
   refine DR.stepV [_,_,_,_,_,_,_,_,_,_,_,_] rfl [(16,_,some 10),(13,_,some 7)] rfl rfl ⟨⟨rfl,rfl,rfl⟩,⟨rfl,rfl,rfl⟩,trivial⟩ (fun ext=>TL.on rfl rfl rfl (decide_eq_false (fun q=>q h2)) <| TL.move hF rfl rfl TL.fin) ?_
   refine DR.stepV [_,_,_,_,_,_,_,_,_,_,_,_,_] rfl [(2,_,none),(17,_,some 11)] rfl rfl ⟨⟨rfl,by kernel_rfl⟩,⟨rfl,rfl,rfl⟩,trivial⟩ (fun ext=>TL.on rfl rfl rfl (decide_eq_true h3) <| TL.fieldAddr hF rfl rfl TL.fin) ?_
   refine DR.stepV [_,_,_,_,_,_,_,_,_,_,_,_,_,_] rfl [(18,_,some 12),(17,_,some 11)] rfl rfl ⟨⟨rfl,rfl,rfl⟩,⟨rfl,rfl,rfl⟩,trivial⟩ (fun ext=>TL.on rfl rfl rfl (decide_eq_true h3) <| TL.load hF rfl (own_mem (b:=b2) (cs:=#[.int .i64 e.op,.int .i64 e.n,.slice e.a e.l.length e.c]) (e:=87) (fz:=(0,0)) (List.mem_cons.2 (.inl rfl)) rfl) rfl TL.fin) ?_
   refine DR.stepV [_,_,_,_,_,_,_,_,_,_,_,_,_,_,_] rfl [(19,_,some 13),(17,_,some 11)] rfl rfl ⟨⟨rfl,rfl,rfl⟩,⟨rfl,rfl,rfl⟩,trivial⟩ (fun ext=>TL.on rfl rfl rfl (decide_eq_true h3) <| TL.callV hF (IsWord_fn e.n) rfl rfl TL.fin) ?_
   refine DR.stepV [_,_,_,_,_,_,_,_,_,_,_,_,_,_,_,_] rfl [(20,_,some 14),(17,_,some 11)] rfl rfl ⟨⟨rfl,rfl,rfl⟩,⟨rfl,rfl,rfl⟩,trivial⟩ (fun ext=>TL.on rfl rfl rfl (decide_eq_true h3) <| TL.not hF rfl rfl TL.fin) ?_
   refine DR.stepV [_,_,_,_,_,_,_,_,_,_,_,_,_,_,_,_,_] rfl [(17,_,some 11),(21,_,some 15),(13,_,some 7)] rfl rfl ⟨⟨rfl,rfl,rfl⟩,⟨rfl,rfl,rfl⟩,⟨rfl,rfl,rfl⟩,trivial⟩ (fun ext=>TL.on rfl rfl rfl (decide_eq_false (fun q=>q h2)) <| TL.pickT hF rfl (decide_eq_true h3) rfl rfl TL.fin) ?_
   refine DR.stepV [_,_,_,_,_,_,_,_,_,_,_,_,_,_,_,_,_,_] rfl [(13,_,some 7),(22,_,some 16)] rfl rfl ⟨⟨rfl,rfl,rfl⟩,⟨rfl,rfl,rfl⟩,trivial⟩ (fun ext=>TL.pickF hF rfl (decide_eq_false (fun q=>q h2)) rfl rfl TL.fin) ?_
   refine DR.stepV [_,_,_,_,_,_,_,_,_,_,_,_,_,_,_,_,_,_,_] rfl [(23,_,some 17)] rfl rfl ⟨⟨rfl,rfl,rfl⟩,trivial⟩ (fun ext=>TL.move hF rfl rfl TL.fin) ?_
   refine DR.off [_,_,_,_,_,_,_,_,_,_,_,_,_,_,_,_,_,_,_,_] rfl hF rfl rfl rfl rfl rfl (by simp [h4]) rfl ?_
   refine DR.off [_,_,_,_,_,_,_,_,_,_,_,_,_,_,_,_,_,_,_,_,_] rfl hF rfl rfl rfl rfl rfl (by simp [h4]) rfl ?_
   refine DR.off [_,_,_,_,_,_,_,_,_,_,_,_,_,_,_,_,_,_,_,_,_,_] rfl hF rfl rfl rfl rfl rfl (by simp [h4]) rfl ?_
   refine DR.off [_,_,_,_,_,_,_,_,_,_,_,_,_,_,_,_,_,_,_,_,_,_,_] rfl hF rfl rfl rfl rfl rfl (by simp [h4]) rfl ?_
   refine DR.offU [_,_,_,_,_,_,_,_,_,_,_,_,_,_,_,_,_,_,_,_,_,_,_,_] rfl hF rfl rfl rfl rfl rfl rfl ?_
   refine DR.offU [_,_,_,_,_,_,_,_,_,_,_,_,_,_,_,_,_,_,_,_,_,_,_,_,_] rfl hF rfl rfl rfl rfl rfl rfl ?_
   refine DR.offU [_,_,_,_,_,_,_,_,_,_,_,_,_,_,_,_,_,_,_,_,_,_,_,_,_,_] rfl hF rfl rfl rfl rfl rfl rfl ?_
   refine DR.offU [_,_,_,_,_,_,_,_,_,_,_,_,_,_,_,_,_,_,_,_,_,_,_,_,_,_,_] rfl hF rfl rfl rfl rfl rfl rfl ?_
   refine DR.off [_,_,_,_,_,_,_,_,_,_,_,_,_,_,_,_,_,_,_,_,_,_,_,_,_,_,_,_] rfl hF rfl rfl rfl rfl rfl (by simp [h4]) rfl ?_
   refine DR.stepV [_,_,_,_,_,_,_,_,_,_,_,_,_,_,_,_,_,_,_,_,_,_,_,_,_,_,_,_,_] rfl [(24,_,some 18),(33,_,some 27)] rfl rfl ⟨⟨rfl,rfl,rfl⟩,⟨rfl,rfl,rfl⟩,trivial⟩ (fun ext=>TL.pickT hF rfl (by simp [h4]) rfl rfl TL.fin) ?_
   refine DR.stepV [_,_,_,_,_,_,_,_,_,_,_,_,_,_,_,_,_,_,_,_,_,_,_,_,_,_,_,_,_,_] rfl [(34,_,some 28)] rfl rfl ⟨⟨rfl,rfl,rfl⟩,trivial⟩ (fun ext=>TL.move hF rfl rfl TL.fin) ?_
   refine DR.off [_,_,_,_,_,_,_,_,_,_,_,_,_,_,_,_,_,_,_,_,_,_,_,_,_,_,_,_,_,_,_] rfl hF rfl rfl rfl rfl rfl rfl rfl ?_
   refine DR.off [_,_,_,_,_,_,_,_,_,_,_,_,_,_,_,_,_,_,_,_,_,_,_,_,_,_,_,_,_,_,_,_] rfl hF rfl rfl rfl rfl rfl rfl rfl ?_
   refine DR.off [_,_,_,_,_,_,_,_,_,_,_,_,_,_,_,_,_,_,_,_,_,_,_,_,_,_,_,_,_,_,_,_,_] rfl hF rfl rfl rfl rfl rfl rfl rfl ?_
   refine DR.off [_,_,_,_,_,_,_,_,_,_,_,_,_,_,_,_,_,_,_,_,_,_,_,_,_,_,_,_,_,_,_,_,_,_] rfl hF rfl rfl rfl rfl rfl rfl rfl ?_
   refine DR.offU [_,_,_,_,_,_,_,_,_,_,_,_,_,_,_,_,_,_,_,_,_,_,_,_,_,_,_,_,_,_,_,_,_,_,_] rfl hF rfl rfl rfl rfl rfl rfl ?_
   refine DR.offU [_,_,_,_,_,_,_,_,_,_,_,_,_,_,_,_,_,_,_,_,_,_,_,_,_,_,_,_,_,_,_,_,_,_,_,_] rfl hF rfl rfl rfl rfl rfl rfl ?_
   refine DR.offU [_,_,_,_,_,_,_,_,_,_,_,_,_,_,_,_,_,_,_,_,_,_,_,_,_,_,_,_,_,_,_,_,_,_,_,_,_] rfl hF rfl rfl rfl rfl rfl rfl ?_
   refine DR.offU [_,_,_,_,_,_,_,_,_,_,_,_,_,_,_,_,_,_,_,_,_,_,_,_,_,_,_,_,_,_,_,_,_,_,_,_,_,_] rfl hF rfl rfl rfl rfl rfl rfl ?_
   refine DR.done [(43,_),(42,_),(41,_),(40,_),(39,_),(38,_),(37,_),(36,_),(35,_),(34,_),(33,_),(32,_),(31,_),(30,_),(29,_),(28,_),(27,_),(26,_),(25,_),(24,_),(23,_),(22,_),(21,_),(20,_),(19,_),(18,_),(17,_),(16,_),(15,_),(14,_),(13,_),(12,_),(11,_),(10,_),(9,_),(8,_),(7,_),(6,_)] [_,_,_,_] mixed (by kernel_rfl) (by kernel_rfl) (by kernel_rfl) rfl rfl ?_
   refine TL.offU hF rfl rfl rfl rfl ?_
   refine TL.offU hF rfl rfl rfl rfl ?_
   refine TL.off hF rfl rfl rfl rfl rfl ?_
   refine TL.pickT hF rfl rfl rfl rfl ?_
   refine TL.nil ?_
   refine TQ.cut () trivial ⟨rfl,rfl,rfl,congrArg (fun z=>some (Value.bool z)) ?_,trivial⟩ rfl
   first | (simp [rk_no hno]; done) | (simp [rk_yes hok]; done) | (simp [rk_no hno,h4]; done) | (simp [rk_yes hok,h4]; done)
  ·refine T.draw ?_
   refine DR.stepV [_] rfl [(2,_,none)] rfl rfl ⟨⟨rfl,by kernel_rfl⟩,trivial⟩ (fun ext=>TL.fieldAddr hF rfl rfl TL.fin) ?_
   refine DR.stepV [_,_] rfl [(6,_,some 0)] rfl rfl ⟨⟨rfl,rfl,rfl⟩,trivial⟩ (fun ext=>TL.load hF rfl (own_mem (b:=b2) (cs:=#[.int .i64 e.op,.int .i64 e.n,.slice e.a e.l.length e.c]) (e:=87) (fz:=(0,0)) (List.mem_cons.2 (.inl rfl)) rfl) rfl TL.fin) ?_
   refine DR.stepV [_,_,_] rfl [(7,_,some 1)] rfl rfl ⟨⟨rfl,rfl,rfl⟩,trivial⟩ (fun ext=>TL.len hF rfl rfl TL.fin) ?_
   refine DR.stepV [_,_,_,_] rfl [(2,_,none)] rfl rfl ⟨⟨rfl,by kernel_rfl⟩,trivial⟩ (fun ext=>TL.fieldAddr hF rfl rfl TL.fin) ?_
   refine DR.stepV [_,_,_,_,_] rfl [(9,_,some 3)] rfl rfl ⟨⟨rfl,rfl,rfl⟩,trivial⟩ (fun ext=>TL.load hF rfl (own_mem (b:=b2) (cs:=#[.int .i64 e.op,.int .i64 e.n,.slice e.a e.l.length e.c]) (e:=87) (fz:=(0,0)) (List.mem_cons.2 (.inl rfl)) rfl) rfl TL.fin) ?_
   refine DR.stepV [_,_,_,_,_,_] rfl [(10,_,some 4)] rfl rfl ⟨⟨rfl,rfl,rfl⟩,trivial⟩ (fun ext=>TL.callV hF (partsR_fn e.op) rfl rfl TL.fin) ?_
   refine DR.stepV [_,_,_,_,_,_,_] rfl [(8,_,some 2),(11,_,some 5)] rfl rfl ⟨⟨rfl,rfl,rfl⟩,⟨rfl,rfl,rfl⟩,trivial⟩ (fun ext=>TL.bin hF rfl rfl rfl rfl TL.fin) ?_
   refine DR.stepV [_,_,_,_,_,_,_,_] rfl [(12,_,some 6)] rfl rfl ⟨⟨rfl,rfl,rfl⟩,trivial⟩ (fun ext=>TL.move hF rfl rfl TL.fin) ?_
   refine DR.stepV [_,_,_,_,_,_,_,_,_] rfl [(2,_,none),(13,_,some 7)] rfl rfl ⟨⟨rfl,by kernel_rfl⟩,⟨rfl,rfl,rfl⟩,trivial⟩ (fun ext=>TL.on rfl rfl rfl (decide_eq_false (fun q=>q h2)) <| TL.fieldAddr hF rfl rfl TL.fin) ?_
   refine DR.stepV [_,_,_,_,_,_,_,_,_,_] rfl [(14,_,some 8),(13,_,some 7)] rfl rfl ⟨⟨rfl,rfl,rfl⟩,⟨rfl,rfl,rfl⟩,trivial⟩ (fun ext=>TL.on rfl rfl rfl (decide_eq_false (fun q=>q h2)) <| TL.load hF rfl (own_mem (b:=b2) (cs:=#[.int .i64 e.op,.int .i64 e.n,.slice e.a e.l.length e.c]) (e:=87) (fz:=(0,0)) (List.mem_cons.2 (.inl rfl)) rfl) rfl TL.fin) ?_
   refine DR.stepV [_,_,_,_,_,_,_,_,_,_,_] rfl [(15,_,some 9),(13,_,some 7)] rfl rfl ⟨⟨rfl,rfl,rfl⟩,⟨rfl,rfl,rfl⟩,trivial⟩ (fun ext=>TL.on rfl rfl rfl (decide_eq_false (fun q=>q h2)) <| TL.bin hF rfl rfl rfl rfl TL.fin) ?_
   refine DR.stepV [_,_,_,_,_,_,_,_,_,_,_,_] rfl [(16,_,some 10),(13,_,some 7)] rfl rfl ⟨⟨rfl,rfl,rfl⟩,⟨rfl,rfl,rfl⟩,trivial⟩ (fun ext=>TL.on rfl rfl rfl (decide_eq_false (fun q=>q h2)) <| TL.move hF rfl rfl TL.fin) ?_
   refine DR.off [_,_,_,_,_,_,_,_,_,_,_,_,_] rfl hF rfl rfl rfl rfl rfl (decide_eq_false (by omega)) rfl ?_
   refine DR.off [_,_,_,_,_,_,_,_,_,_,_,_,_,_] rfl hF rfl rfl rfl rfl rfl (decide_eq_false (by omega)) rfl ?_
   refine DR.off [_,_,_,_,_,_,_,_,_,_,_,_,_,_,_] rfl hF rfl rfl rfl rfl rfl (decide_eq_false (by omega)) rfl ?_
   refine DR.off [_,_,_,_,_,_,_,_,_,_,_,_,_,_,_,_] rfl hF rfl rfl rfl rfl rfl (decide_eq_false (by omega)) rfl ?_
   refine DR.stepV [_,_,_,_,_,_,_,_,_,_,_,_,_,_,_,_,_] rfl [(17,_,some 11),(21,_,some 15),(13,_,some 7)] rfl rfl ⟨⟨rfl,rfl,rfl⟩,⟨rfl,rfl,rfl⟩,⟨rfl,rfl,rfl⟩,trivial⟩ (fun ext=>TL.on rfl rfl rfl (decide_eq_false (fun q=>q h2)) <| TL.pickF hF rfl (decide_eq_false (by omega)) rfl rfl TL.fin) ?_
   refine DR.stepV [_,_,_,_,_,_,_,_,_,_,_,_,_,_,_,_,_,_] rfl [(13,_,some 7),(22,_,some 16)] rfl rfl ⟨⟨rfl,rfl,rfl⟩,⟨rfl,rfl,rfl⟩,trivial⟩ (fun ext=>TL.pickF hF rfl (decide_eq_false (fun q=>q h2)) rfl rfl TL.fin) ?_
   refine DR.stepV [_,_,_,_,_,_,_,_,_,_,_,_,_,_,_,_,_,_,_] rfl [(23,_,some 17)] rfl rfl ⟨⟨rfl,rfl,rfl⟩,trivial⟩ (fun ext=>TL.move hF rfl rfl TL.fin) ?_
   refine DR.stepV [_,_,_,_,_,_,_,_,_,_,_,_,_,_,_,_,_,_,_,_] rfl [(2,_,none),(24,_,some 18)] rfl rfl ⟨⟨rfl,by kernel_rfl⟩,⟨rfl,rfl,rfl⟩,trivial⟩ (fun ext=>TL.on rfl rfl rfl rfl <| TL.fieldAddr hF rfl rfl TL.fin) ?_
   refine DR.stepV [_,_,_,_,_,_,_,_,_,_,_,_,_,_,_,_,_,_,_,_,_] rfl [(25,_,some 19),(24,_,some 18)] rfl rfl ⟨⟨rfl,rfl,rfl⟩,⟨rfl,rfl,rfl⟩,trivial⟩ (fun ext=>TL.on rfl rfl rfl rfl <| TL.load hF rfl (own_mem (b:=b2) (cs:=#[.int .i64 e.op,.int .i64 e.n,.slice e.a e.l.length e.c]) (e:=87) (fz:=(0,0)) (List.mem_cons.2 (.inl rfl)) rfl) rfl TL.fin) ?_
   refine DR.stepV [_,_,_,_,_,_,_,_,_,_,_,_,_,_,_,_,_,_,_,_,_,_] rfl [(26,_,some 20),(24,_,some 18)] rfl rfl ⟨⟨rfl,rfl,rfl⟩,⟨rfl,rfl,rfl⟩,trivial⟩ (fun ext=>TL.on rfl rfl rfl rfl <| TL.bin hF rfl rfl rfl rfl TL.fin) ?_
   refine DR.stepV [_,_,_,_,_,_,_,_,_,_,_,_,_,_,_,_,_,_,_,_,_,_,_] rfl [(27,_,some 21),(24,_,some 18)] rfl rfl ⟨⟨rfl,rfl,rfl⟩,⟨rfl,rfl,rfl⟩,trivial⟩ (fun ext=>TL.on rfl rfl rfl rfl <| TL.move hF rfl rfl TL.fin) ?_
   refine DR.stepV [_,_,_,_,_,_,_,_,_,_,_,_,_,_,_,_,_,_,_,_,_,_,_,_] rfl [(2,_,none),(28,_,some 22)] rfl rfl ⟨⟨rfl,by kernel_rfl⟩,⟨rfl,rfl,rfl⟩,trivial⟩ (fun ext=>TL.on rfl rfl rfl (decide_eq_true h3) <| TL.fieldAddr hF rfl rfl TL.fin) ?_
   refine DR.stepV [_,_,_,_,_,_,_,_,_,_,_,_,_,_,_,_,_,_,_,_,_,_,_,_,_] rfl [(29,_,some 23),(28,_,some 22)] rfl rfl ⟨⟨rfl,rfl,rfl⟩,⟨rfl,rfl,rfl⟩,trivial⟩ (fun ext=>TL.on rfl rfl rfl (decide_eq_true h3) <| TL.load hF rfl (own_mem (b:=b2) (cs:=#[.int .i64 e.op,.int .i64 e.n,.slice e.a e.l.length e.c]) (e:=87) (fz:=(0,0)) (List.mem_cons.2 (.inl rfl)) rfl) rfl TL.fin) ?_
   refine DR.stepV [_,_,_,_,_,_,_,_,_,_,_,_,_,_,_,_,_,_,_,_,_,_,_,_,_,_] rfl [(30,_,some 24),(28,_,some 22)] rfl rfl ⟨⟨rfl,rfl,rfl⟩,⟨rfl,rfl,rfl⟩,trivial⟩ (fun ext=>TL.on rfl rfl rfl (decide_eq_true h3) <| TL.callV hF (Lies_fn e.n 0 9) rfl rfl TL.fin) ?_
   refine DR.stepV [_,_,_,_,_,_,_,_,_,_,_,_,_,_,_,_,_,_,_,_,_,_,_,_,_,_,_] rfl [(31,_,some 25),(28,_,some 22)] rfl rfl ⟨⟨rfl,rfl,rfl⟩,⟨rfl,rfl,rfl⟩,trivial⟩ (fun ext=>TL.on rfl rfl rfl (decide_eq_true h3) <| TL.not hF rfl rfl TL.fin) ?_
   refine DR.stepV [_,_,_,_,_,_,_,_,_,_,_,_,_,_,_,_,_,_,_,_,_,_,_,_,_,_,_,_] rfl [(28,_,some 22),(32,_,some 26),(24,_,some 18)] rfl rfl ⟨⟨rfl,rfl,rfl⟩,⟨rfl,rfl,rfl⟩,⟨rfl,rfl,rfl⟩,trivial⟩ (fun ext=>TL.on rfl rfl rfl rfl <| TL.pickT hF rfl (decide_eq_true h3) rfl rfl TL.fin) ?_
   refine DR.stepV [_,_,_,_,_,_,_,_,_,_,_,_,_,_,_,_,_,_,_,_,_,_,_,_,_,_,_,_,_] rfl [(24,_,some 18),(33,_,some 27)] rfl rfl ⟨⟨rfl,rfl,rfl⟩,⟨rfl,rfl,rfl⟩,trivial⟩ (fun ext=>TL.pickF hF rfl rfl rfl rfl TL.fin) ?_
   refine DR.stepV [_,_,_,_,_,_,_,_,_,_,_,_,_,_,_,_,_,_,_,_,_,_,_,_,_,_,_,_,_,_] rfl [(34,_,some 28)] rfl rfl ⟨⟨rfl,rfl,rfl⟩,trivial⟩ (fun ext=>TL.move hF rfl rfl TL.fin) ?_
   refine DR.stepV [_,_,_,_,_,_,_,_,_,_,_,_,_,_,_,_,_,_,_,_,_,_,_,_,_,_,_,_,_,_,_] rfl [(2,_,none),(35,_,some 29)] rfl rfl ⟨⟨rfl,by kernel_rfl⟩,⟨rfl,rfl,rfl⟩,trivial⟩ (fun ext=>TL.on rfl rfl rfl (by rw [h4] <;> rfl) <| TL.fieldAddr hF rfl rfl TL.fin) ?_
   refine DR.stepV [_,_,_,_,_,_,_,_,_,_,_,_,_,_,_,_,_,_,_,_,_,_,_,_,_,_,_,_,_,_,_,_] rfl [(36,_,some 30),(35,_,some 29)] rfl rfl ⟨⟨rfl,rfl,rfl⟩,⟨rfl,rfl,rfl⟩,trivial⟩ (fun ext=>TL.on rfl rfl rfl (by rw [h4] <;> rfl) <| TL.load hF rfl (own_mem (b:=b2) (cs:=#[.int .i64 e.op,.int .i64 e.n,.slice e.a e.l.length e.c]) (e:=87) (fz:=(0,0)) (List.mem_cons.2 (.inl rfl)) rfl) rfl TL.fin) ?_
   refine DR.stepV [_,_,_,_,_,_,_,_,_,_,_,_,_,_,_,_,_,_,_,_,_,_,_,_,_,_,_,_,_,_,_,_,_] rfl [(37,_,some 31),(35,_,some 29)] rfl rfl ⟨⟨rfl,rfl,rfl⟩,⟨rfl,rfl,rfl⟩,trivial⟩ (fun ext=>TL.on rfl rfl rfl (by rw [h4] <;> rfl) <| TL.bin hF rfl rfl rfl rfl TL.fin) ?_
   refine DR.stepV [_,_,_,_,_,_,_,_,_,_,_,_,_,_,_,_,_,_,_,_,_,_,_,_,_,_,_,_,_,_,_,_,_,_] rfl [(38,_,some 32),(35,_,some 29)] rfl rfl ⟨⟨rfl,rfl,rfl⟩,⟨rfl,rfl,rfl⟩,trivial⟩ (fun ext=>TL.on rfl rfl rfl (by rw [h4] <;> rfl) <| TL.move hF rfl rfl TL.fin) ?_
   refine DR.off [_,_,_,_,_,_,_,_,_,_,_,_,_,_,_,_,_,_,_,_,_,_,_,_,_,_,_,_,_,_,_,_,_,_,_] rfl hF rfl rfl rfl rfl rfl (decide_eq_false (by omega)) rfl ?_
   refine DR.off [_,_,_,_,_,_,_,_,_,_,_,_,_,_,_,_,_,_,_,_,_,_,_,_,_,_,_,_,_,_,_,_,_,_,_,_] rfl hF rfl rfl rfl rfl rfl (decide_eq_false (by omega)) rfl ?_
   refine DR.off [_,_,_,_,_,_,_,_,_,_,_,_,_,_,_,_,_,_,_,_,_,_,_,_,_,_,_,_,_,_,_,_,_,_,_,_,_] rfl hF rfl rfl rfl rfl rfl (decide_eq_false (by omega)) rfl ?_
   refine DR.off [_,_,_,_,_,_,_,_,_,_,_,_,_,_,_,_,_,_,_,_,_,_,_,_,_,_,_,_,_,_,_,_,_,_,_,_,_,_] rfl hF rfl rfl rfl rfl rfl (decide_eq_false (by omega)) rfl ?_
   refine DR.done [(43,_),(42,_),(41,_),(40,_),(39,_),(38,_),(37,_),(36,_),(35,_),(34,_),(33,_),(32,_),(31,_),(30,_),(29,_),(28,_),(27,_),(26,_),(25,_),(24,_),(23,_),(22,_),(21,_),(20,_),(19,_),(18,_),(17,_),(16,_),(15,_),(14,_),(13,_),(12,_),(11,_),(10,_),(9,_),(8,_),(7,_),(6,_)] [_,_,_,_] mixed (by kernel_rfl) (by kernel_rfl) (by kernel_rfl) rfl rfl ?_
   refine TL.off hF rfl rfl rfl (decide_eq_false (by omega)) rfl ?_
   refine TL.off hF rfl rfl rfl (decide_eq_false (by omega)) rfl ?_
   refine TL.on rfl rfl rfl (by rw [h4] <;> rfl) ?_
   refine TL.pickF hF rfl (decide_eq_false (by omega)) rfl rfl ?_
   refine TL.pickF hF rfl (by rw [h4] <;> rfl) rfl rfl ?_
   refine TL.nil ?_
   refine TQ.cut () trivial ⟨rfl,rfl,rfl,congrArg (fun z=>some (Value.bool z)) ?_,trivial⟩ rfl
   first | (simp [rk_no hno]; done) | (simp [rk_yes hok]; done) | (simp [rk_no hno,h4]; done) | (simp [rk_yes hok,h4]; done)
  ·refine T.draw ?_
   refine DR.stepV [_] rfl [(2,_,none)] rfl rfl ⟨⟨rfl,by kernel_rfl⟩,trivial⟩ (fun ext=>TL.fieldAddr hF rfl rfl TL.fin) ?_
   refine DR.stepV [_,_] rfl [(6,_,some 0)] rfl rfl ⟨⟨rfl,rfl,rfl⟩,trivial⟩ (fun ext=>TL.load hF rfl (own_mem (b:=b2) (cs:=#[.int .i64 e.op,.int .i64 e.n,.slice e.a e.l.length e.c]) (e:=87) (fz:=(0,0)) (List.mem_cons.2 (.inl rfl)) rfl) rfl TL.fin) ?_
   refine DR.stepV [_,_,_] rfl [(7,_,some 1)] rfl rfl ⟨⟨rfl,rfl,rfl⟩,trivial⟩ (fun ext=>TL.len hF rfl rfl TL.fin) ?_
   refine DR.stepV [_,_,_,_] rfl [(2,_,none)] rfl rfl ⟨⟨rfl,by kernel_rfl⟩,trivial⟩ (fun ext=>TL.fieldAddr hF rfl rfl TL.fin) ?_
   refine DR.stepV [_,_,_,_,_] rfl [(9,_,some 3)] rfl rfl ⟨⟨rfl,rfl,rfl⟩,trivial⟩ (fun ext=>TL.load hF rfl (own_mem (b:=b2) (cs:=#[.int .i64 e.op,.int .i64 e.n,.slice e.a e.l.length e.c]) (e:=87) (fz:=(0,0)) (List.mem_cons.2 (.inl rfl)) rfl) rfl TL.fin) ?_
   refine DR.stepV [_,_,_,_,_,_] rfl [(10,_,some 4)] rfl rfl ⟨⟨rfl,rfl,rfl⟩,trivial⟩ (fun ext=>TL.callV hF (partsR_fn e.op) rfl rfl TL.fin) ?_
   refine DR.stepV [_,_,_,_,_,_,_] rfl [(8,_,some 2),(11,_,some 5)] rfl rfl ⟨⟨rfl,rfl,rfl⟩,⟨rfl,rfl,rfl⟩,trivial⟩ (fun ext=>TL.bin hF rfl rfl rfl rfl TL.fin) ?_
   refine DR.stepV [_,_,_,_,_,_,_,_] rfl [(12,_,some 6)] rfl rfl ⟨⟨rfl,rfl,rfl⟩,trivial⟩ (fun ext=>TL.move hF rfl rfl TL.fin) ?_
   refine DR.stepV [_,_,_,_,_,_,_,_,_] rfl [(2,_,none),(13,_,some 7)] rfl rfl ⟨⟨rfl,by kernel_rfl⟩,⟨rfl,rfl,rfl⟩,trivial⟩ (fun ext=>TL.on rfl rfl rfl (decide_eq_false (fun q=>q h2)) <| TL.fieldAddr hF rfl rfl TL.fin) ?_
   refine DR.stepV [_,_,_,_,_,_,_,_,_,_] rfl [(14,_,some 8),(13,_,some 7)] rfl rfl ⟨⟨rfl,rfl,rfl⟩,⟨rfl,rfl,rfl⟩,trivial⟩ (fun ext=>TL.on rfl rfl rfl (decide_eq_false (fun q=>q h2)) <| TL.load hF rfl (own_mem (b:=b2) (cs:=#[.int .i64 e.op,.int .i64 e.n,.slice e.a e.l.length e.c]) (e:=87) (fz:=(0,0)) (List.mem_cons.2 (.inl rfl)) rfl) rfl TL.fin) ?_
   refine DR.stepV [_,_,_,_,_,_,_,_,_,_,_] rfl [(15,_,some 9),(13,_,some 7)] rfl rfl ⟨⟨rfl,rfl,rfl⟩,⟨rfl,rfl,rfl⟩,trivial⟩ (fun ext=>TL.on rfl rfl rfl (decide_eq_false (fun q=>q h2)) <| TL.bin hF rfl rfl rfl rfl TL.fin) ?_
   refine DR.stepV [_,_,_,_,_,_,_,_,_,_,_,_] rfl [(16,_,some 10),(13,_,some 7)] rfl rfl ⟨⟨rfl,rfl,rfl⟩,⟨rfl,rfl,rfl⟩,trivial⟩ (fun ext=>TL.on rfl rfl rfl (decide_eq_false (fun q=>q h2)) <| TL.move hF rfl rfl TL.fin) ?_
   refine DR.off [_,_,_,_,_,_,_,_,_,_,_,_,_] rfl hF rfl rfl rfl rfl rfl (decide_eq_false (by omega)) rfl ?_
   refine DR.off [_,_,_,_,_,_,_,_,_,_,_,_,_,_] rfl hF rfl rfl rfl rfl rfl (decide_eq_false (by omega)) rfl ?_
   refine DR.off [_,_,_,_,_,_,_,_,_,_,_,_,_,_,_] rfl hF rfl rfl rfl rfl rfl (decide_eq_false (by omega)) rfl ?_
   refine DR.off [_,_,_,_,_,_,_,_,_,_,_,_,_,_,_,_] rfl hF rfl rfl rfl rfl rfl (decide_eq_false (by omega)) rfl ?_
   refine DR.stepV [_,_,_,_,_,_,_,_,_,_,_,_,_,_,_,_,_] rfl [(17,_,some 11),(21,_,some 15),(13,_,some 7)] rfl rfl ⟨⟨rfl,rfl,rfl⟩,⟨rfl,rfl,rfl⟩,⟨rfl,rfl,rfl⟩,trivial⟩ (fun ext=>TL.on rfl rfl rfl (decide_eq_false (fun q=>q h2)) <| TL.pickF hF rfl (decide_eq_false (by omega)) rfl rfl TL.fin) ?_
   refine DR.stepV [_,_,_,_,_,_,_,_,_,_,_,_,_,_,_,_,_,_] rfl [(13,_,some 7),(22,_,some 16)] rfl rfl ⟨⟨rfl,rfl,rfl⟩,⟨rfl,rfl,rfl⟩,trivial⟩ (fun ext=>TL.pickF hF rfl (decide_eq_false (fun q=>q h2)) rfl rfl TL.fin) ?_
   refine DR.stepV [_,_,_,_,_,_,_,_,_,_,_,_,_,_,_,_,_,_,_] rfl [(23,_,some 17)] rfl rfl ⟨⟨rfl,rfl,rfl⟩,trivial⟩ (fun ext=>TL.move hF rfl rfl TL.fin) ?_
   refine DR.stepV [_,_,_,_,_,_,_,_,_,_,_,_,_,_,_,_,_,_,_,_] rfl [(2,_,none),(24,_,some 18)] rfl rfl ⟨⟨rfl,by kernel_rfl⟩,⟨rfl,rfl,rfl⟩,trivial⟩ (fun ext=>TL.on rfl rfl rfl rfl <| TL.fieldAddr hF rfl rfl TL.fin) ?_
   refine DR.stepV [_,_,_,_,_,_,_,_,_,_,_,_,_,_,_,_,_,_,_,_,_] rfl [(25,_,some 19),(24,_,some 18)] rfl rfl ⟨⟨rfl,rfl,rfl⟩,⟨rfl,rfl,rfl⟩,trivial⟩ (fun ext=>TL.on rfl rfl rfl rfl <| TL.load hF rfl (own_mem (b:=b2) (cs:=#[.int .i64 e.op,.int .i64 e.n,.slice e.a e.l.length e.c]) (e:=87) (fz:=(0,0)) (List.mem_cons.2 (.inl rfl)) rfl) rfl TL.fin) ?_
   refine DR.stepV [_,_,_,_,_,_,_,_,_,_,_,_,_,_,_,_,_,_,_,_,_,_] rfl [(26,_,some 20),(24,_,some 18)] rfl rfl ⟨⟨rfl,rfl,rfl⟩,⟨rfl,rfl,rfl⟩,trivial⟩ (fun ext=>TL.on rfl rfl rfl rfl <| TL.bin hF rfl rfl rfl rfl TL.fin) ?_
   refine DR.stepV [_,_,_,_,_,_,_,_,_,_,_,_,_,_,_,_,_,_,_,_,_,_,_] rfl [(27,_,some 21),(24,_,some 18)] rfl rfl ⟨⟨rfl,rfl,rfl⟩,⟨rfl,rfl,rfl⟩,trivial⟩ (fun ext=>TL.on rfl rfl rfl rfl <| TL.move hF rfl rfl TL.fin) ?_
   refine DR.stepV [_,_,_,_,_,_,_,_,_,_,_,_,_,_,_,_,_,_,_,_,_,_,_,_] rfl [(2,_,none),(28,_,some 22)] rfl rfl ⟨⟨rfl,by kernel_rfl⟩,⟨rfl,rfl,rfl⟩,trivial⟩ (fun ext=>TL.on rfl rfl rfl (decide_eq_true h3) <| TL.fieldAddr hF rfl rfl TL.fin) ?_
   refine DR.stepV [_,_,_,_,_,_,_,_,_,_,_,_,_,_,_,_,_,_,_,_,_,_,_,_,_] rfl [(29,_,some 23),(28,_,some 22)] rfl rfl ⟨⟨rfl,rfl,rfl⟩,⟨rfl,rfl,rfl⟩,trivial⟩ (fun ext=>TL.on rfl rfl rfl (decide_eq_true h3) <| TL.load hF rfl (own_mem (b:=b2) (cs:=#[.int .i64 e.op,.int .i64 e.n,.slice e.a e.l.length e.c]) (e:=87) (fz:=(0,0)) (List.mem_cons.2 (.inl rfl)) rfl) rfl TL.fin) ?_
   refine DR.stepV [_,_,_,_,_,_,_,_,_,_,_,_,_,_,_,_,_,_,_,_,_,_,_,_,_,_] rfl [(30,_,some 24),(28,_,some 22)] rfl rfl ⟨⟨rfl,rfl,rfl⟩,⟨rfl,rfl,rfl⟩,trivial⟩ (fun ext=>TL.on rfl rfl rfl (decide_eq_true h3) <| TL.callV hF (Lies_fn e.n 0 9) rfl rfl TL.fin) ?_
   refine DR.stepV [_,_,_,_,_,_,_,_,_,_,_,_,_,_,_,_,_,_,_,_,_,_,_,_,_,_,_] rfl [(31,_,some 25),(28,_,some 22)] rfl rfl ⟨⟨rfl,rfl,rfl⟩,⟨rfl,rfl,rfl⟩,trivial⟩ (fun ext=>TL.on rfl rfl rfl (decide_eq_true h3) <| TL.not hF rfl rfl TL.fin) ?_
   refine DR.stepV [_,_,_,_,_,_,_,_,_,_,_,_,_,_,_,_,_,_,_,_,_,_,_,_,_,_,_,_] rfl [(28,_,some 22),(32,_,some 26),(24,_,some 18)] rfl rfl ⟨⟨rfl,rfl,rfl⟩,⟨rfl,rfl,rfl⟩,⟨rfl,rfl,rfl⟩,trivial⟩ (fun ext=>TL.on rfl rfl rfl rfl <| TL.pickT hF rfl (decide_eq_true h3) rfl rfl TL.fin) ?_
   refine DR.stepV [_,_,_,_,_,_,_,_,_,_,_,_,_,_,_,_,_,_,_,_,_,_,_,_,_,_,_,_,_] rfl [(24,_,some 18),(33,_,some 27)] rfl rfl ⟨⟨rfl,rfl,rfl⟩,⟨rfl,rfl,rfl⟩,trivial⟩ (fun ext=>TL.pickF hF rfl rfl rfl rfl TL.fin) ?_
   refine DR.stepV [_,_,_,_,_,_,_,_,_,_,_,_,_,_,_,_,_,_,_,_,_,_,_,_,_,_,_,_,_,_] rfl [(34,_,some 28)] rfl rfl ⟨⟨rfl,rfl,rfl⟩,trivial⟩ (fun ext=>TL.move hF rfl rfl TL.fin) ?_
   refine DR.off [_,_,_,_,_,_,_,_,_,_,_,_,_,_,_,_,_,_,_,_,_,_,_,_,_,_,_,_,_,_,_] rfl hF rfl rfl rfl rfl rfl (by rw [h4] <;> rfl) rfl ?_
   refine DR.off [_,_,_,_,_,_,_,_,_,_,_,_,_,_,_,_,_,_,_,_,_,_,_,_,_,_,_,_,_,_,_,_] rfl hF rfl rfl rfl rfl rfl (by rw [h4] <;> rfl) rfl ?_
   refine DR.off [_,_,_,_,_,_,_,_,_,_,_,_,_,_,_,_,_,_,_,_,_,_,_,_,_,_,_,_,_,_,_,_,_] rfl hF rfl rfl rfl rfl rfl (by rw [h4] <;> rfl) rfl ?_
   refine DR.off [_,_,_,_,_,_,_,_,_,_,_,_,_,_,_,_,_,_,_,_,_,_,_,_,_,_,_,_,_,_,_,_,_,_] rfl hF rfl rfl rfl rfl rfl (by rw [h4] <;> rfl) rfl ?_
   refine DR.offU [_,_,_,_,_,_,_,_,_,_,_,_,_,_,_,_,_,_,_,_,_,_,_,_,_,_,_,_,_,_,_,_,_,_,_] rfl hF rfl rfl rfl rfl rfl rfl ?_
   refine DR.offU [_,_,_,_,_,_,_,_,_,_,_,_,_,_,_,_,_,_,_,_,_,_,_,_,_,_,_,_,_,_,_,_,_,_,_,_] rfl hF rfl rfl rfl rfl rfl rfl ?_
   refine DR.offU [_,_,_,_,_,_,_,_,_,_,_,_,_,_,_,_,_,_,_,_,_,_,_,_,_,_,_,_,_,_,_,_,_,_,_,_,_] rfl hF rfl rfl rfl rfl rfl rfl ?_
   refine DR.offU [_,_,_,_,_,_,_,_,_,_,_,_,_,_,_,_,_,_,_,_,_,_,_,_,_,_,_,_,_,_,_,_,_,_,_,_,_,_] rfl hF rfl rfl rfl rfl rfl rfl ?_
   refine DR.done [(43,_),(42,_),(41,_),(40,_),(39,_),(38,_),(37,_),(36,_),(35,_),(34,_),(33,_),(32,_),(31,_),(30,_),(29,_),(28,_),(27,_),(26,_),(25,_),(24,_),(23,_),(22,_),(21,_),(20,_),(19,_),(18,_),(17,_),(16,_),(15,_),(14,_),(13,_),(12,_),(11,_),(10,_),(9,_),(8,_),(7,_),(6,_)] [_,_,_,_] mixed (by kernel_rfl) (by kernel_rfl) (by kernel_rfl) rfl rfl ?_
   refine TL.offU hF rfl rfl rfl rfl ?_
   refine TL.offU hF rfl rfl rfl rfl ?_
   refine TL.off hF rfl rfl rfl (by rw [h4] <;> rfl) rfl ?_
   refine TL.pickT hF rfl (by rw [h4] <;> rfl) rfl rfl ?_
   refine TL.nil ?_
   refine TQ.cut () trivial ⟨rfl,rfl,rfl,congrArg (fun z=>some (Value.bool z)) ?_,trivial⟩ rfl
   first | (simp [rk_no hno]; done) | (simp [rk_yes hok]; done) | (simp [rk_no hno,h4]; done) | (simp [rk_yes hok,h4]; done)
  ·refine T.draw ?_
   refine DR.stepV [_] rfl [(2,_,none)] rfl rfl ⟨⟨rfl,by kernel_rfl⟩,trivial⟩ (fun ext=>TL.fieldAddr hF rfl rfl TL.fin) ?_
   refine DR.stepV [_,_] rfl [(6,_,some 0)] rfl rfl ⟨⟨rfl,rfl,rfl⟩,trivial⟩ (fun ext=>TL.load hF rfl (own_mem (b:=b2) (cs:=#[.int .i64 e.op,.int .i64 e.n,.slice e.a e.l.length e.c]) (e:=87) (fz:=(0,0)) (List.mem_cons.2 (.inl rfl)) rfl) rfl TL.fin) ?_
   refine DR.stepV [_,_,_] rfl [(7,_,some 1)] rfl rfl ⟨⟨rfl,rfl,rfl⟩,trivial⟩ (fun ext=>TL.len hF rfl rfl TL.fin) ?_
   refine DR.stepV [_,_,_,_] rfl [(2,_,none)] rfl rfl ⟨⟨rfl,by kernel_rfl⟩,trivial⟩ (fun ext=>TL.fieldAddr hF rfl rfl TL.fin) ?_
   refine DR.stepV [_,_,_,_,_] rfl [(9,_,some 3)] rfl rfl ⟨⟨rfl,rfl,rfl⟩,trivial⟩ (fun ext=>TL.load hF rfl (own_mem (b:=b2) (cs:=#[.int .i64 e.op,.int .i64 e.n,.slice e.a e.l.length e.c]) (e:=87) (fz:=(0,0)) (List.mem_cons.2 (.inl rfl)) rfl) rfl TL.fin) ?_
   refine DR.stepV [_,_,_,_,_,_] rfl [(10,_,some 4)] rfl rfl ⟨⟨rfl,rfl,rfl⟩,trivial⟩ (fun ext=>TL.callV hF (partsR_fn e.op) rfl rfl TL.fin) ?_
   refine DR.stepV [_,_,_,_,_,_,_] rfl [(8,_,some 2),(11,_,some 5)] rfl rfl ⟨⟨rfl,rfl,rfl⟩,⟨rfl,rfl,rfl⟩,trivial⟩ (fun ext=>TL.bin hF rfl rfl rfl rfl TL.fin) ?_
   refine DR.stepV [_,_,_,_,_,_,_,_] rfl [(12,_,some 6)] rfl rfl ⟨⟨rfl,rfl,rfl⟩,trivial⟩ (fun ext=>TL.move hF rfl rfl TL.fin) ?_
   refine DR.stepV [_,_,_,_,_,_,_,_,_] rfl [(2,_,none),(13,_,some 7)] rfl rfl ⟨⟨rfl,by kernel_rfl⟩,⟨rfl,rfl,rfl⟩,trivial⟩ (fun ext=>TL.on rfl rfl rfl (decide_eq_false (fun q=>q h2)) <| TL.fieldAddr hF rfl rfl TL.fin) ?_
   refine DR.stepV [_,_,_,_,_,_,_,_,_,_] rfl [(14,_,some 8),(13,_,some 7)] rfl rfl ⟨⟨rfl,rfl,rfl⟩,⟨rfl,rfl,rfl⟩,trivial⟩ (fun ext=>TL.on rfl rfl rfl (decide_eq_false (fun q=>q h2)) <| TL.load hF rfl (own_mem (b:=b2) (cs:=#[.int .i64 e.op,.int .i64 e.n,.slice e.a e.l.length e.c]) (e:=87) (fz:=(0,0)) (List.mem_cons.2 (.inl rfl)) rfl) rfl TL.fin) ?_
   refine DR.stepV [_,_,_,_,_,_,_,_,_,_,_] rfl [(15,_,some 9),(13,_,some 7)] rfl rfl ⟨⟨rfl,rfl,rfl⟩,⟨rfl,rfl,rfl⟩,trivial⟩ (fun ext=>TL.on rfl rfl rfl (decide_eq_false (fun q=>q h2)) <| TL.bin hF rfl rfl rfl rfl TL.fin) ?_
   refine DR.stepV [_,_,_,_,_,_,_,_,_,_,_,_] rfl [(16,_,some 10),(13,_,some 7)] rfl rfl ⟨⟨rfl,rfl,rfl⟩,⟨rfl,rfl,rfl⟩,trivial⟩ (fun ext=>TL.on rfl rfl rfl (decide_eq_false (fun q=>q h2)) <| TL.move hF rfl rfl TL.fin) ?_
   refine DR.off [_,_,_,_,_,_,_,_,_,_,_,_,_] rfl hF rfl rfl rfl rfl rfl (decide_eq_false (by omega)) rfl ?_
   refine DR.off [_,_,_,_,_,_,_,_,_,_,_,_,_,_] rfl hF rfl rfl rfl rfl rfl (decide_eq_false (by omega)) rfl ?_
   refine DR.off [_,_,_,_,_,_,_,_,_,_,_,_,_,_,_] rfl hF rfl rfl rfl rfl rfl (decide_eq_false (by omega)) rfl ?_
   refine DR.off [_,_,_,_,_,_,_,_,_,_,_,_,_,_,_,_] rfl hF rfl rfl rfl rfl rfl (decide_eq_false (by omega)) rfl ?_
   refine DR.stepV [_,_,_,_,_,_,_,_,_,_,_,_,_,_,_,_,_] rfl [(17,_,some 11),(21,_,some 15),(13,_,some 7)] rfl rfl ⟨⟨rfl,rfl,rfl⟩,⟨rfl,rfl,rfl⟩,⟨rfl,rfl,rfl⟩,trivial⟩ (fun ext=>TL.on rfl rfl rfl (decide_eq_false (fun q=>q h2)) <| TL.pickF hF rfl (decide_eq_false (by omega)) rfl rfl TL.fin) ?_
   refine DR.stepV [_,_,_,_,_,_,_,_,_,_,_,_,_,_,_,_,_,_] rfl [(13,_,some 7),(22,_,some 16)] rfl rfl ⟨⟨rfl,rfl,rfl⟩,⟨rfl,rfl,rfl⟩,trivial⟩ (fun ext=>TL.pickF hF rfl (decide_eq_false (fun q=>q h2)) rfl rfl TL.fin) ?_
   refine DR.stepV [_,_,_,_,_,_,_,_,_,_,_,_,_,_,_,_,_,_,_] rfl [(23,_,some 17)] rfl rfl ⟨⟨rfl,rfl,rfl⟩,trivial⟩ (fun ext=>TL.move hF rfl rfl TL.fin) ?_
   refine DR.stepV [_,_,_,_,_,_,_,_,_,_,_,_,_,_,_,_,_,_,_,_] rfl [(2,_,none),(24,_,some 18)] rfl rfl ⟨⟨rfl,by kernel_rfl⟩,⟨rfl,rfl,rfl⟩,trivial⟩ (fun ext=>TL.on rfl rfl rfl rfl <| TL.fieldAddr hF rfl rfl TL.fin) ?_
   refine DR.stepV [_,_,_,_,_,_,_,_,_,_,_,_,_,_,_,_,_,_,_,_,_] rfl [(25,_,some 19),(24,_,some 18)] rfl rfl ⟨⟨rfl,rfl,rfl⟩,⟨rfl,rfl,rfl⟩,trivial⟩ (fun ext=>TL.on rfl rfl rfl rfl <| TL.load hF rfl (own_mem (b:=b2) (cs:=#[.int .i64 e.op,.int .i64 e.n,.slice e.a e.l.length e.c]) (e:=87) (fz:=(0,0)) (List.mem_cons.2 (.inl rfl)) rfl) rfl TL.fin) ?_
   refine DR.stepV [_,_,_,_,_,_,_,_,_,_,_,_,_,_,_,_,_,_,_,_,_,_] rfl [(26,_,some 20),(24,_,some 18)] rfl rfl ⟨⟨rfl,rfl,rfl⟩,⟨rfl,rfl,rfl⟩,trivial⟩ (fun ext=>TL.on rfl rfl rfl rfl <| TL.bin hF rfl rfl rfl rfl TL.fin) ?_
   refine DR.stepV [_,_,_,_,_,_,_,_,_,_,_,_,_,_,_,_,_,_,_,_,_,_,_] rfl [(27,_,some 21),(24,_,some 18)] rfl rfl ⟨⟨rfl,rfl,rfl⟩,⟨rfl,rfl,rfl⟩,trivial⟩ (fun ext=>TL.on rfl rfl rfl rfl <| TL.move hF rfl rfl TL.fin) ?_
   refine DR.off [_,_,_,_,_,_,_,_,_,_,_,_,_,_,_,_,_,_,_,_,_,_,_,_] rfl hF rfl rfl rfl rfl rfl (decide_eq_false (by omega)) rfl ?_
   refine DR.off [_,_,_,_,_,_,_,_,_,_,_,_,_,_,_,_,_,_,_,_,_,_,_,_,_] rfl hF rfl rfl rfl rfl rfl (decide_eq_false (by omega)) rfl ?_
   refine DR.off [_,_,_,_,_,_,_,_,_,_,_,_,_,_,_,_,_,_,_,_,_,_,_,_,_,_] rfl hF rfl rfl rfl rfl rfl (decide_eq_false (by omega)) rfl ?_
   refine DR.off [_,_,_,_,_,_,_,_,_,_,_,_,_,_,_,_,_,_,_,_,_,_,_,_,_,_,_] rfl hF rfl rfl rfl rfl rfl (decide_eq_false (by omega)) rfl ?_
   refine DR.stepV [_,_,_,_,_,_,_,_,_,_,_,_,_,_,_,_,_,_,_,_,_,_,_,_,_,_,_,_] rfl [(28,_,some 22),(32,_,some 26),(24,_,some 18)] rfl rfl ⟨⟨rfl,rfl,rfl⟩,⟨rfl,rfl,rfl⟩,⟨rfl,rfl,rfl⟩,trivial⟩ (fun ext=>TL.on rfl rfl rfl rfl <| TL.pickF hF rfl (decide_eq_false (by omega)) rfl rfl TL.fin) ?_
   refine DR.stepV [_,_,_,_,_,_,_,_,_,_,_,_,_,_,_,_,_,_,_,_,_,_,_,_,_,_,_,_,_] rfl [(24,_,some 18),(33,_,some 27)] rfl rfl ⟨⟨rfl,rfl,rfl⟩,⟨rfl,rfl,rfl⟩,trivial⟩ (fun ext=>TL.pickF hF rfl rfl rfl rfl TL.fin) ?_
   refine DR.stepV [_,_,_,_,_,_,_,_,_,_,_,_,_,_,_,_,_,_,_,_,_,_,_,_,_,_,_,_,_,_] rfl [(34,_,some 28)] rfl rfl ⟨⟨rfl,rfl,rfl⟩,trivial⟩ (fun ext=>TL.move hF rfl rfl TL.fin) ?_
   refine DR.stepV [_,_,_,_,_,_,_,_,_,_,_,_,_,_,_,_,_,_,_,_,_,_,_,_,_,_,_,_,_,_,_] rfl [(2,_,none),(35,_,some 29)] rfl rfl ⟨⟨rfl,by kernel_rfl⟩,⟨rfl,rfl,rfl⟩,trivial⟩ (fun ext=>TL.on rfl rfl rfl rfl <| TL.fieldAddr hF rfl rfl TL.fin) ?_
   refine DR.stepV [_,_,_,_,_,_,_,_,_,_,_,_,_,_,_,_,_,_,_,_,_,_,_,_,_,_,_,_,_,_,_,_] rfl [(36,_,some 30),(35,_,some 29)] rfl rfl ⟨⟨rfl,rfl,rfl⟩,⟨rfl,rfl,rfl⟩,trivial⟩ (fun ext=>TL.on rfl rfl rfl rfl <| TL.load hF rfl (own_mem (b:=b2) (cs:=#[.int .i64 e.op,.int .i64 e.n,.slice e.a e.l.length e.c]) (e:=87) (fz:=(0,0)) (List.mem_cons.2 (.inl rfl)) rfl) rfl TL.fin) ?_
   refine DR.stepV [_,_,_,_,_,_,_,_,_,_,_,_,_,_,_,_,_,_,_,_,_,_,_,_,_,_,_,_,_,_,_,_,_] rfl [(37,_,some 31),(35,_,some 29)] rfl rfl ⟨⟨rfl,rfl,rfl⟩,⟨rfl,rfl,rfl⟩,trivial⟩ (fun ext=>TL.on rfl rfl rfl rfl <| TL.bin hF rfl rfl rfl rfl TL.fin) ?_
   refine DR.stepV [_,_,_,_,_,_,_,_,_,_,_,_,_,_,_,_,_,_,_,_,_,_,_,_,_,_,_,_,_,_,_,_,_,_] rfl [(38,_,some 32),(35,_,some 29)] rfl rfl ⟨⟨rfl,rfl,rfl⟩,⟨rfl,rfl,rfl⟩,trivial⟩ (fun ext=>TL.on rfl rfl rfl rfl <| TL.move hF rfl rfl TL.fin) ?_
   refine DR.stepV [_,_,_,_,_,_,_,_,_,_,_,_,_,_,_,_,_,_,_,_,_,_,_,_,_,_,_,_,_,_,_,_,_,_,_] rfl [(2,_,none),(39,_,some 33)] rfl rfl ⟨⟨rfl,by kernel_rfl⟩,⟨rfl,rfl,rfl⟩,trivial⟩ (fun ext=>TL.on rfl rfl rfl (decide_eq_true h3) <| TL.fieldAddr hF rfl rfl TL.fin) ?_
   refine DR.stepV [_,_,_,_,_,_,_,_,_,_,_,_,_,_,_,_,_,_,_,_,_,_,_,_,_,_,_,_,_,_,_,_,_,_,_,_] rfl [(40,_,some 34),(39,_,some 33)] rfl rfl ⟨⟨rfl,rfl,rfl⟩,⟨rfl,rfl,rfl⟩,trivial⟩ (fun ext=>TL.on rfl rfl rfl (decide_eq_true h3) <| TL.load hF rfl (own_mem (b:=b2) (cs:=#[.int .i64 e.op,.int .i64 e.n,.slice e.a e.l.length e.c]) (e:=87) (fz:=(0,0)) (List.mem_cons.2 (.inl rfl)) rfl) rfl TL.fin) ?_
   refine DR.stepV [_,_,_,_,_,_,_,_,_,_,_,_,_,_,_,_,_,_,_,_,_,_,_,_,_,_,_,_,_,_,_,_,_,_,_,_,_] rfl [(1,_,none),(39,_,some 33)] rfl rfl ⟨⟨rfl,by kernel_rfl⟩,⟨rfl,rfl,rfl⟩,trivial⟩ (fun ext=>TL.on rfl rfl rfl (decide_eq_true h3) <| TL.move hF rfl rfl TL.fin) ?_
   refine DR.stepV [_,_,_,_,_,_,_,_,_,_,_,_,_,_,_,_,_,_,_,_,_,_,_,_,_,_,_,_,_,_,_,_,_,_,_,_,_,_] rfl [(42,_,some 36),(39,_,some 33)] rfl rfl ⟨⟨rfl,rfl,rfl⟩,⟨rfl,rfl,rfl⟩,trivial⟩ (fun ext=>TL.on rfl rfl rfl (decide_eq_true h3) <| TL.sub hF rfl rfl (by omega) (by omega) rfl TL.fin) ?_
   refine DR.done [(43,_),(42,_),(41,_),(40,_),(39,_),(38,_),(37,_),(36,_),(35,_),(34,_),(33,_),(32,_),(31,_),(30,_),(29,_),(28,_),(27,_),(26,_),(25,_),(24,_),(23,_),(22,_),(21,_),(20,_),(19,_),(18,_),(17,_),(16,_),(15,_),(14,_),(13,_),(12,_),(11,_),(10,_),(9,_),(8,_),(7,_),(6,_)] [_,_,_,_] mixed (by kernel_rfl) (by kernel_rfl) (by kernel_rfl) rfl rfl ?_
   refine TL.on rfl rfl rfl (decide_eq_true h3) ?_
   refine TL.callV hF (Lies_fn e.n 0 (funs - 1)) rfl rfl ?_
   refine TL.on rfl rfl rfl (decide_eq_true h3) ?_
   refine TL.not hF rfl rfl ?_
   refine TL.on rfl rfl rfl rfl ?_
   refine TL.pickT hF rfl (decide_eq_true h3) rfl rfl ?_
   refine TL.pickF hF rfl rfl rfl rfl ?_
   refine TL.nil ?_
   refine TQ.cut () trivial ⟨rfl,rfl,rfl,congrArg (fun z=>some (Value.bool z)) ?_,trivial⟩ rfl
   first | (simp [rk_no hno]; done) | (simp [rk_yes hok]; done) | (simp [rk_no hno,h4]; done) | (simp [rk_yes hok,h4]; done)
  ·refine T.draw ?_
   refine DR.stepV [_] rfl [(2,_,none)] rfl rfl ⟨⟨rfl,by kernel_rfl⟩,trivial⟩ (fun ext=>TL.fieldAddr hF rfl rfl TL.fin) ?_
   refine DR.stepV [_,_] rfl [(6,_,some 0)] rfl rfl ⟨⟨rfl,rfl,rfl⟩,trivial⟩ (fun ext=>TL.load hF rfl (own_mem (b:=b2) (cs:=#[.int .i64 e.op,.int .i64 e.n,.slice e.a e.l.length e.c]) (e:=87) (fz:=(0,0)) (List.mem_cons.2 (.inl rfl)) rfl) rfl TL.fin) ?_
   refine DR.stepV [_,_,_] rfl [(7,_,some 1)] rfl rfl ⟨⟨rfl,rfl,rfl⟩,trivial⟩ (fun ext=>TL.len hF rfl rfl TL.fin) ?_
   refine DR.stepV [_,_,_,_] rfl [(2,_,none)] rfl rfl ⟨⟨rfl,by kernel_rfl⟩,trivial⟩ (fun ext=>TL.fieldAddr hF rfl rfl TL.fin) ?_
   refine DR.stepV [_,_,_,_,_] rfl [(9,_,some 3)] rfl rfl ⟨⟨rfl,rfl,rfl⟩,trivial⟩ (fun ext=>TL.load hF rfl (own_mem (b:=b2) (cs:=#[.int .i64 e.op,.int .i64 e.n,.slice e.a e.l.length e.c]) (e:=87) (fz:=(0,0)) (List.mem_cons.2 (.inl rfl)) rfl) rfl TL.fin) ?_
   refine DR.stepV [_,_,_,_,_,_] rfl [(10,_,some 4)] rfl rfl ⟨⟨rfl,rfl,rfl⟩,trivial⟩ (fun ext=>TL.callV hF (partsR_fn e.op) rfl rfl TL.fin) ?_
   refine DR.stepV [_,_,_,_,_,_,_] rfl [(8,_,some 2),(11,_,some 5)] rfl rfl ⟨⟨rfl,rfl,rfl⟩,⟨rfl,rfl,rfl⟩,trivial⟩ (fun ext=>TL.bin hF rfl rfl rfl rfl TL.fin) ?_
   refine DR.stepV [_,_,_,_,_,_,_,_] rfl [(12,_,some 6)] rfl rfl ⟨⟨rfl,rfl,rfl⟩,trivial⟩ (fun ext=>TL.move hF rfl rfl TL.fin) ?_
   refine DR.stepV [_,_,_,_,_,_,_,_,_] rfl [(2,_,none),(13,_,some 7)] rfl rfl ⟨⟨rfl,by kernel_rfl⟩,⟨rfl,rfl,rfl⟩,trivial⟩ (fun ext=>TL.on rfl rfl rfl (decide_eq_false (fun q=>q h2)) <| TL.fieldAddr hF rfl rfl TL.fin) ?_
   refine DR.stepV [_,_,_,_,_,_,_,_,_,_] rfl [(14,_,some 8),(13,_,some 7)] rfl rfl ⟨⟨rfl,rfl,rfl⟩,⟨rfl,rfl,rfl⟩,trivial⟩ (fun ext=>TL.on rfl rfl rfl (decide_eq_false (fun q=>q h2)) <| TL.load hF rfl (own_mem (b:=b2) (cs:=#[.int .i64 e.op,.int .i64 e.n,.slice e.a e.l.length e.c]) (e:=87) (fz:=(0,0)) (List.mem_cons.2 (.inl rfl)) rfl) rfl TL.fin) ?_
   refine DR.stepV [_,_,_,_,_,_,_,_,_,_,_] rfl [(15,_,some 9),(13,_,some 7)] rfl rfl ⟨⟨rfl,rfl,rfl⟩,⟨rfl,rfl,rfl⟩,trivial⟩ (fun ext=>TL.on rfl rfl rfl (decide_eq_false (fun q=>q h2)) <| TL.bin hF rfl rfl rfl rfl TL.fin) ?_
   refine DR.stepV [_,_,_,_,_,_,_,_,_,_,_,_] rfl [(16,_,some 10),(13,_,some 7)] rfl rfl ⟨⟨rfl,rfl,rfl⟩,⟨rfl,rfl,rfl⟩,trivial⟩ (fun ext=>TL.on rfl rfl rfl (decide_eq_false (fun q=>q h2)) <| TL.move hF rfl rfl TL.fin) ?_
   refine DR.off [_,_,_,_,_,_,_,_,_,_,_,_,_] rfl hF rfl rfl rfl rfl rfl (decide_eq_false (by omega)) rfl ?_
   refine DR.off [_,_,_,_,_,_,_,_,_,_,_,_,_,_] rfl hF rfl rfl rfl rfl rfl (decide_eq_false (by omega)) rfl ?_
   refine DR.off [_,_,_,_,_,_,_,_,_,_,_,_,_,_,_] rfl hF rfl rfl rfl rfl rfl (decide_eq_false (by omega)) rfl ?_
   refine DR.off [_,_,_,_,_,_,_,_,_,_,_,_,_,_,_,_] rfl hF rfl rfl rfl rfl rfl (decide_eq_false (by omega)) rfl ?_
   refine DR.stepV [_,_,_,_,_,_,_,_,_,_,_,_,_,_,_,_,_] rfl [(17,_,some 11),(21,_,some 15),(13,_,some 7)] rfl rfl ⟨⟨rfl,rfl,rfl⟩,⟨rfl,rfl,rfl⟩,⟨rfl,rfl,rfl⟩,trivial⟩ (fun ext=>TL.on rfl rfl rfl (decide_eq_false (fun q=>q h2)) <| TL.pickF hF rfl (decide_eq_false (by omega)) rfl rfl TL.fin) ?_
   refine DR.stepV [_,_,_,_,_,_,_,_,_,_,_,_,_,_,_,_,_,_] rfl [(13,_,some 7),(22,_,some 16)] rfl rfl ⟨⟨rfl,rfl,rfl⟩,⟨rfl,rfl,rfl⟩,trivial⟩ (fun ext=>TL.pickF hF rfl (decide_eq_false (fun q=>q h2)) rfl rfl TL.fin) ?_
   refine DR.stepV [_,_,_,_,_,_,_,_,_,_,_,_,_,_,_,_,_,_,_] rfl [(23,_,some 17)] rfl rfl ⟨⟨rfl,rfl,rfl⟩,trivial⟩ (fun ext=>TL.move hF rfl rfl TL.fin) ?_
   refine DR.stepV [_,_,_,_,_,_,_,_,_,_,_,_,_,_,_,_,_,_,_,_] rfl [(2,_,none),(24,_,some 18)] rfl rfl ⟨⟨rfl,by kernel_rfl⟩,⟨rfl,rfl,rfl⟩,trivial⟩ (fun ext=>TL.on rfl rfl rfl rfl <| TL.fieldAddr hF rfl rfl TL.fin) ?_
   refine DR.stepV [_,_,_,_,_,_,_,_,_,_,_,_,_,_,_,_,_,_,_,_,_] rfl [(25,_,some 19),(24,_,some 18)] rfl rfl ⟨⟨rfl,rfl,rfl⟩,⟨rfl,rfl,rfl⟩,trivial⟩ (fun ext=>TL.on rfl rfl rfl rfl <| TL.load hF rfl (own_mem (b:=b2) (cs:=#[.int .i64 e.op,.int .i64 e.n,.slice e.a e.l.length e.c]) (e:=87) (fz:=(0,0)) (List.mem_cons.2 (.inl rfl)) rfl) rfl TL.fin) ?_
   refine DR.stepV [_,_,_,_,_,_,_,_,_,_,_,_,_,_,_,_,_,_,_,_,_,_] rfl [(26,_,some 20),(24,_,some 18)] rfl rfl ⟨⟨rfl,rfl,rfl⟩,⟨rfl,rfl,rfl⟩,trivial⟩ (fun ext=>TL.on rfl rfl rfl rfl <| TL.bin hF rfl rfl rfl rfl TL.fin) ?_
   refine DR.stepV [_,_,_,_,_,_,_,_,_,_,_,_,_,_,_,_,_,_,_,_,_,_,_] rfl [(27,_,some 21),(24,_,some 18)] rfl rfl ⟨⟨rfl,rfl,rfl⟩,⟨rfl,rfl,rfl⟩,trivial⟩ (fun ext=>TL.on rfl rfl rfl rfl <| TL.move hF rfl rfl TL.fin) ?_
   refine DR.off [_,_,_,_,_,_,_,_,_,_,_,_,_,_,_,_,_,_,_,_,_,_,_,_] rfl hF rfl rfl rfl rfl rfl (decide_eq_false (by omega)) rfl ?_
   refine DR.off [_,_,_,_,_,_,_,_,_,_,_,_,_,_,_,_,_,_,_,_,_,_,_,_,_] rfl hF rfl rfl rfl rfl rfl (decide_eq_false (by omega)) rfl ?_
   refine DR.off [_,_,_,_,_,_,_,_,_,_,_,_,_,_,_,_,_,_,_,_,_,_,_,_,_,_] rfl hF rfl rfl rfl rfl rfl (decide_eq_false (by omega)) rfl ?_
   refine DR.off [_,_,_,_,_,_,_,_,_,_,_,_,_,_,_,_,_,_,_,_,_,_,_,_,_,_,_] rfl hF rfl rfl rfl rfl rfl (decide_eq_false (by omega)) rfl ?_
   refine DR.stepV [_,_,_,_,_,_,_,_,_,_,_,_,_,_,_,_,_,_,_,_,_,_,_,_,_,_,_,_] rfl [(28,_,some 22),(32,_,some 26),(24,_,some 18)] rfl rfl ⟨⟨rfl,rfl,rfl⟩,⟨rfl,rfl,rfl⟩,⟨rfl,rfl,rfl⟩,trivial⟩ (fun ext=>TL.on rfl rfl rfl rfl <| TL.pickF hF rfl (decide_eq_false (by omega)) rfl rfl TL.fin) ?_
   refine DR.stepV [_,_,_,_,_,_,_,_,_,_,_,_,_,_,_,_,_,_,_,_,_,_,_,_,_,_,_,_,_] rfl [(24,_,some 18),(33,_,some 27)] rfl rfl ⟨⟨rfl,rfl,rfl⟩,⟨rfl,rfl,rfl⟩,trivial⟩ (fun ext=>TL.pickF hF rfl rfl rfl rfl TL.fin) ?_
   refine DR.stepV [_,_,_,_,_,_,_,_,_,_,_,_,_,_,_,_,_,_,_,_,_,_,_,_,_,_,_,_,_,_] rfl [(34,_,some 28)] rfl rfl ⟨⟨rfl,rfl,rfl⟩,trivial⟩ (fun ext=>TL.move hF rfl rfl TL.fin) ?_
   refine DR.stepV [_,_,_,_,_,_,_,_,_,_,_,_,_,_,_,_,_,_,_,_,_,_,_,_,_,_,_,_,_,_,_] rfl [(2,_,none),(35,_,some 29)] rfl rfl ⟨⟨rfl,by kernel_rfl⟩,⟨rfl,rfl,rfl⟩,trivial⟩ (fun ext=>TL.on rfl rfl rfl rfl <| TL.fieldAddr hF rfl rfl TL.fin) ?_
   refine DR.stepV [_,_,_,_,_,_,_,_,_,_,_,_,_,_,_,_,_,_,_,_,_,_,_,_,_,_,_,_,_,_,_,_] rfl [(36,_,some 30),(35,_,some 29)] rfl rfl ⟨⟨rfl,rfl,rfl⟩,⟨rfl,rfl,rfl⟩,trivial⟩ (fun ext=>TL.on rfl rfl rfl rfl <| TL.load hF rfl (own_mem (b:=b2) (cs:=#[.int .i64 e.op,.int .i64 e.n,.slice e.a e.l.length e.c]) (e:=87) (fz:=(0,0)) (List.mem_cons.2 (.inl rfl)) rfl) rfl TL.fin) ?_
   refine DR.stepV [_,_,_,_,_,_,_,_,_,_,_,_,_,_,_,_,_,_,_,_,_,_,_,_,_,_,_,_,_,_,_,_,_] rfl [(37,_,some 31),(35,_,some 29)] rfl rfl ⟨⟨rfl,rfl,rfl⟩,⟨rfl,rfl,rfl⟩,trivial⟩ (fun ext=>TL.on rfl rfl rfl rfl <| TL.bin hF rfl rfl rfl rfl TL.fin) ?_
   refine DR.stepV [_,_,_,_,_,_,_,_,_,_,_,_,_,_,_,_,_,_,_,_,_,_,_,_,_,_,_,_,_,_,_,_,_,_] rfl [(38,_,some 32),(35,_,some 29)] rfl rfl ⟨⟨rfl,rfl,rfl⟩,⟨rfl,rfl,rfl⟩,trivial⟩ (fun ext=>TL.on rfl rfl rfl rfl <| TL.move hF rfl rfl TL.fin) ?_
   refine DR.stepV [_,_,_,_,_,_,_,_,_,_,_,_,_,_,_,_,_,_,_,_,_,_,_,_,_,_,_,_,_,_,_,_,_,_,_] rfl [(2,_,none),(39,_,some 33)] rfl rfl ⟨⟨rfl,by kernel_rfl⟩,⟨rfl,rfl,rfl⟩,trivial⟩ (fun ext=>TL.on rfl rfl rfl (decide_eq_true h3) <| TL.fieldAddr hF rfl rfl TL.fin) ?_
   refine DR.stepV [_,_,_,_,_,_,_,_,_,_,_,_,_,_,_,_,_,_,_,_,_,_,_,_,_,_,_,_,_,_,_,_,_,_,_,_] rfl [(40,_,some 34),(39,_,some 33)] rfl rfl ⟨⟨rfl,rfl,rfl⟩,⟨rfl,rfl,rfl⟩,trivial⟩ (fun ext=>TL.on rfl rfl rfl (decide_eq_true h3) <| TL.load hF rfl (own_mem (b:=b2) (cs:=#[.int .i64 e.op,.int .i64 e.n,.slice e.a e.l.length e.c]) (e:=87) (fz:=(0,0)) (List.mem_cons.2 (.inl rfl)) rfl) rfl TL.fin) ?_
   refine DR.stepV [_,_,_,_,_,_,_,_,_,_,_,_,_,_,_,_,_,_,_,_,_,_,_,_,_,_,_,_,_,_,_,_,_,_,_,_,_] rfl [(1,_,none),(39,_,some 33)] rfl rfl ⟨⟨rfl,by kernel_rfl⟩,⟨rfl,rfl,rfl⟩,trivial⟩ (fun ext=>TL.on rfl rfl rfl (decide_eq_true h3) <| TL.move hF rfl rfl TL.fin) ?_
   refine DR.stepV [_,_,_,_,_,_,_,_,_,_,_,_,_,_,_,_,_,_,_,_,_,_,_,_,_,_,_,_,_,_,_,_,_,_,_,_,_,_] rfl [(42,_,some 36),(39,_,some 33)] rfl rfl ⟨⟨rfl,rfl,rfl⟩,⟨rfl,rfl,rfl⟩,trivial⟩ (fun ext=>TL.on rfl rfl rfl (decide_eq_true h3) <| TL.sub hF rfl rfl (by omega) (by omega) rfl TL.fin) ?_
   refine DR.done [(43,_),(42,_),(41,_),(40,_),(39,_),(38,_),(37,_),(36,_),(35,_),(34,_),(33,_),(32,_),(31,_),(30,_),(29,_),(28,_),(27,_),(26,_),(25,_),(24,_),(23,_),(22,_),(21,_),(20,_),(19,_),(18,_),(17,_),(16,_),(15,_),(14,_),(13,_),(12,_),(11,_),(10,_),(9,_),(8,_),(7,_),(6,_)] [_,_,_,_] mixed (by kernel_rfl) (by kernel_rfl) (by kernel_rfl) rfl rfl ?_
   refine TL.on rfl rfl rfl (decide_eq_true h3) ?_
   refine TL.callV hF (Lies_fn e.n 0 (funs - 1)) rfl rfl ?_
   refine TL.on rfl rfl rfl (decide_eq_true h3) ?_
   refine TL.not hF rfl rfl ?_
   refine TL.on rfl rfl rfl rfl ?_
   refine TL.pickT hF rfl (decide_eq_true h3) rfl rfl ?_
   refine TL.pickF hF rfl rfl rfl rfl ?_
   refine TL.nil ?_
   refine TQ.cut () trivial ⟨rfl,rfl,rfl,congrArg (fun z=>some (Value.bool z)) ?_,trivial⟩ rfl
   first | (simp [rk_no hno]; done) | (simp [rk_yes hok]; done) | (simp [rk_no hno,h4]; done) | (simp [rk_yes hok,h4]; done)
  ·refine T.draw ?_
   refine DR.stepV [_] rfl [(2,_,none)] rfl rfl ⟨⟨rfl,by kernel_rfl⟩,trivial⟩ (fun ext=>TL.fieldAddr hF rfl rfl TL.fin) ?_
   refine DR.stepV [_,_] rfl [(6,_,some 0)] rfl rfl ⟨⟨rfl,rfl,rfl⟩,trivial⟩ (fun ext=>TL.load hF rfl (own_mem (b:=b2) (cs:=#[.int .i64 e.op,.int .i64 e.n,.slice e.a e.l.length e.c]) (e:=87) (fz:=(0,0)) (List.mem_cons.2 (.inl rfl)) rfl) rfl TL.fin) ?_
   refine DR.stepV [_,_,_] rfl [(7,_,some 1)] rfl rfl ⟨⟨rfl,rfl,rfl⟩,trivial⟩ (fun ext=>TL.len hF rfl rfl TL.fin) ?_
   refine DR.stepV [_,_,_,_] rfl [(2,_,none)] rfl rfl ⟨⟨rfl,by kernel_rfl⟩,trivial⟩ (fun ext=>TL.fieldAddr hF rfl rfl TL.fin) ?_
   refine DR.stepV [_,_,_,_,_] rfl [(9,_,some 3)] rfl rfl ⟨⟨rfl,rfl,rfl⟩,trivial⟩ (fun ext=>TL.load hF rfl (own_mem (b:=b2) (cs:=#[.int .i64 e.op,.int .i64 e.n,.slice e.a e.l.length e.c]) (e:=87) (fz:=(0,0)) (List.mem_cons.2 (.inl rfl)) rfl) rfl TL.fin) ?_
   refine DR.stepV [_,_,_,_,_,_] rfl [(10,_,some 4)] rfl rfl ⟨⟨rfl,rfl,rfl⟩,trivial⟩ (fun ext=>TL.callV hF (partsR_fn e.op) rfl rfl TL.fin) ?_
   refine DR.stepV [_,_,_,_,_,_,_] rfl [(8,_,some 2),(11,_,some 5)] rfl rfl ⟨⟨rfl,rfl,rfl⟩,⟨rfl,rfl,rfl⟩,trivial⟩ (fun ext=>TL.bin hF rfl rfl rfl rfl TL.fin) ?_
   refine DR.stepV [_,_,_,_,_,_,_,_] rfl [(12,_,some 6)] rfl rfl ⟨⟨rfl,rfl,rfl⟩,trivial⟩ (fun ext=>TL.move hF rfl rfl TL.fin) ?_
   refine DR.stepV [_,_,_,_,_,_,_,_,_] rfl [(2,_,none),(13,_,some 7)] rfl rfl ⟨⟨rfl,by kernel_rfl⟩,⟨rfl,rfl,rfl⟩,trivial⟩ (fun ext=>TL.on rfl rfl rfl (decide_eq_false (fun q=>q h2)) <| TL.fieldAddr hF rfl rfl TL.fin) ?_
   refine DR.stepV [_,_,_,_,_,_,_,_,_,_] rfl [(14,_,some 8),(13,_,some 7)] rfl rfl ⟨⟨rfl,rfl,rfl⟩,⟨rfl,rfl,rfl⟩,trivial⟩ (fun ext=>TL.on rfl rfl rfl (decide_eq_false (fun q=>q h2)) <| TL.load hF rfl (own_mem (b:=b2) (cs:=#[.int .i64 e.op,.int .i64 e.n,.slice e.a e.l.length e.c]) (e:=87) (fz:=(0,0)) (List.mem_cons.2 (.inl rfl)) rfl) rfl TL.fin) ?_
   refine DR.stepV [_,_,_,_,_,_,_,_,_,_,_] rfl [(15,_,some 9),(13,_,some 7)] rfl rfl ⟨⟨rfl,rfl,rfl⟩,⟨rfl,rfl,rfl⟩,trivial⟩ (fun ext=>TL.on rfl rfl rfl (decide_eq_false (fun q=>q h2)) <| TL.bin hF rfl rfl rfl rfl TL.fin) ?_
   refine DR.stepV [_,_,_,_,_,_,_,_,_,_,_,_] rfl [(16,_,some 10),(13,_,some 7)] rfl rfl ⟨⟨rfl,rfl,rfl⟩,⟨rfl,rfl,rfl⟩,trivial⟩ (fun ext=>TL.on rfl rfl rfl (decide_eq_false (fun q=>q h2)) <| TL.move hF rfl rfl TL.fin) ?_
   refine DR.off [_,_,_,_,_,_,_,_,_,_,_,_,_] rfl hF rfl rfl rfl rfl rfl (decide_eq_false h3) rfl ?_
   refine DR.off [_,_,_,_,_,_,_,_,_,_,_,_,_,_] rfl hF rfl rfl rfl rfl rfl (decide_eq_false h3) rfl ?_
   refine DR.off [_,_,_,_,_,_,_,_,_,_,_,_,_,_,_] rfl hF rfl rfl rfl rfl rfl (decide_eq_false h3) rfl ?_
   refine DR.off [_,_,_,_,_,_,_,_,_,_,_,_,_,_,_,_] rfl hF rfl rfl rfl rfl rfl (decide_eq_false h3) rfl ?_
   refine DR.stepV [_,_,_,_,_,_,_,_,_,_,_,_,_,_,_,_,_] rfl [(17,_,some 11),(21,_,some 15),(13,_,some 7)] rfl rfl ⟨⟨rfl,rfl,rfl⟩,⟨rfl,rfl,rfl⟩,⟨rfl,rfl,rfl⟩,trivial⟩ (fun ext=>TL.on rfl rfl rfl (decide_eq_false (fun q=>q h2)) <| TL.pickF hF rfl (decide_eq_false h3) rfl rfl TL.fin) ?_
   refine DR.stepV [_,_,_,_,_,_,_,_,_,_,_,_,_,_,_,_,_,_] rfl [(13,_,some 7),(22,_,some 16)] rfl rfl ⟨⟨rfl,rfl,rfl⟩,⟨rfl,rfl,rfl⟩,trivial⟩ (fun ext=>TL.pickF hF rfl (decide_eq_false (fun q=>q h2)) rfl rfl TL.fin) ?_
   refine DR.stepV [_,_,_,_,_,_,_,_,_,_,_,_,_,_,_,_,_,_,_] rfl [(23,_,some 17)] rfl rfl ⟨⟨rfl,rfl,rfl⟩,trivial⟩ (fun ext=>TL.move hF rfl rfl TL.fin) ?_
   refine DR.stepV [_,_,_,_,_,_,_,_,_,_,_,_,_,_,_,_,_,_,_,_] rfl [(2,_,none),(24,_,some 18)] rfl rfl ⟨⟨rfl,by kernel_rfl⟩,⟨rfl,rfl,rfl⟩,trivial⟩ (fun ext=>TL.on rfl rfl rfl rfl <| TL.fieldAddr hF rfl rfl TL.fin) ?_
   refine DR.stepV [_,_,_,_,_,_,_,_,_,_,_,_,_,_,_,_,_,_,_,_,_] rfl [(25,_,some 19),(24,_,some 18)] rfl rfl ⟨⟨rfl,rfl,rfl⟩,⟨rfl,rfl,rfl⟩,trivial⟩ (fun ext=>TL.on rfl rfl rfl rfl <| TL.load hF rfl (own_mem (b:=b2) (cs:=#[.int .i64 e.op,.int .i64 e.n,.slice e.a e.l.length e.c]) (e:=87) (fz:=(0,0)) (List.mem_cons.2 (.inl rfl)) rfl) rfl TL.fin) ?_
   refine DR.stepV [_,_,_,_,_,_,_,_,_,_,_,_,_,_,_,_,_,_,_,_,_,_] rfl [(26,_,some 20),(24,_,some 18)] rfl rfl ⟨⟨rfl,rfl,rfl⟩,⟨rfl,rfl,rfl⟩,trivial⟩ (fun ext=>TL.on rfl rfl rfl rfl <| TL.bin hF rfl rfl rfl rfl TL.fin) ?_
   refine DR.stepV [_,_,_,_,_,_,_,_,_,_,_,_,_,_,_,_,_,_,_,_,_,_,_] rfl [(27,_,some 21),(24,_,some 18)] rfl rfl ⟨⟨rfl,rfl,rfl⟩,⟨rfl,rfl,rfl⟩,trivial⟩ (fun ext=>TL.on rfl rfl rfl rfl <| TL.move hF rfl rfl TL.fin) ?_
   refine DR.off [_,_,_,_,_,_,_,_,_,_,_,_,_,_,_,_,_,_,_,_,_,_,_,_] rfl hF rfl rfl rfl rfl rfl (decide_eq_false h4) rfl ?_
   refine DR.off [_,_,_,_,_,_,_,_,_,_,_,_,_,_,_,_,_,_,_,_,_,_,_,_,_] rfl hF rfl rfl rfl rfl rfl (decide_eq_false h4) rfl ?_
   refine DR.off [_,_,_,_,_,_,_,_,_,_,_,_,_,_,_,_,_,_,_,_,_,_,_,_,_,_] rfl hF rfl rfl rfl rfl rfl (decide_eq_false h4) rfl ?_
   refine DR.off [_,_,_,_,_,_,_,_,_,_,_,_,_,_,_,_,_,_,_,_,_,_,_,_,_,_,_] rfl hF rfl rfl rfl rfl rfl (decide_eq_false h4) rfl ?_
   refine DR.stepV [_,_,_,_,_,_,_,_,_,_,_,_,_,_,_,_,_,_,_,_,_,_,_,_,_,_,_,_] rfl [(28,_,some 22),(32,_,some 26),(24,_,some 18)] rfl rfl ⟨⟨rfl,rfl,rfl⟩,⟨rfl,rfl,rfl⟩,⟨rfl,rfl,rfl⟩,trivial⟩ (fun ext=>TL.on rfl rfl rfl rfl <| TL.pickF hF rfl (decide_eq_false h4) rfl rfl TL.fin) ?_
   refine DR.stepV [_,_,_,_,_,_,_,_,_,_,_,_,_,_,_,_,_,_,_,_,_,_,_,_,_,_,_,_,_] rfl [(24,_,some 18),(33,_,some 27)] rfl rfl ⟨⟨rfl,rfl,rfl⟩,⟨rfl,rfl,rfl⟩,trivial⟩ (fun ext=>TL.pickF hF rfl rfl rfl rfl TL.fin) ?_
   refine DR.stepV [_,_,_,_,_,_,_,_,_,_,_,_,_,_,_,_,_,_,_,_,_,_,_,_,_,_,_,_,_,_] rfl [(34,_,some 28)] rfl rfl ⟨⟨rfl,rfl,rfl⟩,trivial⟩ (fun ext=>TL.move hF rfl rfl TL.fin) ?_
   refine DR.stepV [_,_,_,_,_,_,_,_,_,_,_,_,_,_,_,_,_,_,_,_,_,_,_,_,_,_,_,_,_,_,_] rfl [(2,_,none),(35,_,some 29)] rfl rfl ⟨⟨rfl,by kernel_rfl⟩,⟨rfl,rfl,rfl⟩,trivial⟩ (fun ext=>TL.on rfl rfl rfl rfl <| TL.fieldAddr hF rfl rfl TL.fin) ?_
   refine DR.stepV [_,_,_,_,_,_,_,_,_,_,_,_,_,_,_,_,_,_,_,_,_,_,_,_,_,_,_,_,_,_,_,_] rfl [(36,_,some 30),(35,_,some 29)] rfl rfl ⟨⟨rfl,rfl,rfl⟩,⟨rfl,rfl,rfl⟩,trivial⟩ (fun ext=>TL.on rfl rfl rfl rfl <| TL.load hF rfl (own_mem (b:=b2) (cs:=#[.int .i64 e.op,.int .i64 e.n,.slice e.a e.l.length e.c]) (e:=87) (fz:=(0,0)) (List.mem_cons.2 (.inl rfl)) rfl) rfl TL.fin) ?_
   refine DR.stepV [_,_,_,_,_,_,_,_,_,_,_,_,_,_,_,_,_,_,_,_,_,_,_,_,_,_,_,_,_,_,_,_,_] rfl [(37,_,some 31),(35,_,some 29)] rfl rfl ⟨⟨rfl,rfl,rfl⟩,⟨rfl,rfl,rfl⟩,trivial⟩ (fun ext=>TL.on rfl rfl rfl rfl <| TL.bin hF rfl rfl rfl rfl TL.fin) ?_
   refine DR.stepV [_,_,_,_,_,_,_,_,_,_,_,_,_,_,_,_,_,_,_,_,_,_,_,_,_,_,_,_,_,_,_,_,_,_] rfl [(38,_,some 32),(35,_,some 29)] rfl rfl ⟨⟨rfl,rfl,rfl⟩,⟨rfl,rfl,rfl⟩,trivial⟩ (fun ext=>TL.on rfl rfl rfl rfl <| TL.move hF rfl rfl TL.fin) ?_
   refine DR.off [_,_,_,_,_,_,_,_,_,_,_,_,_,_,_,_,_,_,_,_,_,_,_,_,_,_,_,_,_,_,_,_,_,_,_] rfl hF rfl rfl rfl rfl rfl (decide_eq_false h5) rfl ?_
   refine DR.off [_,_,_,_,_,_,_,_,_,_,_,_,_,_,_,_,_,_,_,_,_,_,_,_,_,_,_,_,_,_,_,_,_,_,_,_] rfl hF rfl rfl rfl rfl rfl (decide_eq_false h5) rfl ?_
   refine DR.off [_,_,_,_,_,_,_,_,_,_,_,_,_,_,_,_,_,_,_,_,_,_,_,_,_,_,_,_,_,_,_,_,_,_,_,_,_] rfl hF rfl rfl rfl rfl rfl (decide_eq_false h5) rfl ?_
   refine DR.off [_,_,_,_,_,_,_,_,_,_,_,_,_,_,_,_,_,_,_,_,_,_,_,_,_,_,_,_,_,_,_,_,_,_,_,_,_,_] rfl hF rfl rfl rfl rfl rfl (decide_eq_false h5) rfl ?_
   refine DR.done [(43,_),(42,_),(41,_),(40,_),(39,_),(38,_),(37,_),(36,_),(35,_),(34,_),(33,_),(32,_),(31,_),(30,_),(29,_),(28,_),(27,_),(26,_),(25,_),(24,_),(23,_),(22,_),(21,_),(20,_),(19,_),(18,_),(17,_),(16,_),(15,_),(14,_),(13,_),(12,_),(11,_),(10,_),(9,_),(8,_),(7,_),(6,_)] [_,_,_,_] mixed (by kernel_rfl) (by kernel_rfl) (by kernel_rfl) rfl rfl ?_
   refine TL.off hF rfl rfl rfl (decide_eq_false h5) rfl ?_
   refine TL.off hF rfl rfl rfl (decide_eq_false h5) rfl ?_
   refine TL.on rfl rfl rfl rfl ?_
   refine TL.pickF hF rfl (decide_eq_false h5) rfl rfl ?_
   refine TL.pickF hF rfl rfl rfl rfl ?_
   refine TL.nil ?_
   refine TQ.cut () trivial ⟨rfl,rfl,rfl,congrArg (fun z=>some (Value.bool z)) ?_,trivial⟩ rfl
   first | (simp [rk_no hno]; done) | (simp [rk_yes hok]; done) | (simp [rk_no hno,h4]; done) | (simp [rk_yes hok,h4]; done)
 ·rintro _ _
  refine T.cond _ rfl (fun ht47=>?_) (fun ht47=>?_)
  ·refine T.seq ?_
   refine T.region ?_
   refine TL.assign hF rfl rfl ?_
   refine TL.nil ?_
   refine TQ.then_n ?_
   refine T.ret ?_
   refine TQ.then_r ?_
   refine TQ.pop ?_
   refine TQ.rets [4] _ rfl rfl rfl ?_
   first | exact ⟨congrArg Value.bool (right_no (rk_not ht47)).symm,rfl⟩ | exact ⟨congrArg Value.bool (right_part hkl ht62).symm,rfl⟩ | exact ⟨congrArg Value.bool (right_yes hok ht52 hall).symm,rfl⟩
  ·refine T.skip ?_
   refine TQ.then_n ?_
   refine T.seq ?_
   refine T.seq ?_
   refine T.region ?_
   refine TL.assign hF rfl rfl ?_
   refine TL.nil ?_
   refine TQ.then_n ?_
   refine T.block ?_
   have hok:=rk_is ht47
   refine T.loop (ι:=Nat) (fun k=>k≤e.l.length∧∀ x∈e.l.take k,rightE funs x.ex=true) (fun k=>[(1,.int .i64 funs),(2,ptr b2),(4,.bool false),(5,.int .i64 (k:Int))]) (fun _=>[(b2,Obj.cells #[.int .i64 e.op,.int .i64 e.n,.slice e.a e.l.length e.c] 87 (0,0))]::η) (fun k=>e.l.length - k) 0 ⟨Nat.zero_le _,by simp⟩ ⟨rfl,rfl,rfl,rfl,trivial⟩ rfl ?_
   rintro k ⟨hk,hall⟩
   refine T.seq ?_
   refine T.seq ?_
   refine T.region ?_
   refine TL.move hF rfl rfl ?_
   refine TL.fieldAddr hF rfl rfl ?_
   refine TL.load hF rfl (own_mem (b:=b2) (cs:=#[.int .i64 e.op,.int .i64 e.n,.slice e.a e.l.length e.c]) (e:=87) (fz:=(0,0)) (List.mem_cons.2 (.inl rfl)) rfl) rfl ?_
   refine TL.len hF rfl rfl ?_
   refine TL.bin hF rfl rfl rfl rfl ?_
   refine TL.nil ?_
   refine TQ.then_n ?_
   first | refine T.cond_d rfl (fun ht52=>?_) (fun ht52=>?_) | refine T.cond _ rfl (fun ht52=>?_) (fun ht52=>?_)
   ·refine T.skip ?_
    refine TQ.then_n ?_
    refine T.seq ?_
    refine T.block ?_
    refine T.seq ?_
    refine T.region ?_
    refine TL.fieldAddr hF rfl rfl ?_
    refine TL.load hF rfl (own_mem (b:=b2) (cs:=#[.int .i64 e.op,.int .i64 e.n,.slice e.a e.l.length e.c]) (e:=87) (fz:=(0,0)) (List.mem_cons.2 (.inl rfl)) rfl) rfl ?_
    refine TL.move hF rfl rfl ?_
    have hkl:k<e.l.length:=by have h:(k:Int)<(e.l.length:Int):=ht52; omega
    refine TL.indexAddr hF rfl rfl (he.fs.ad hkl) (by omega) (by omega) rfl ?_
    refine TL.loadA hF (teC e.l[k]) rfl rfl (he.fs.ro.atA (i:=k) hkl) rfl ?_
    refine TL.move hF rfl rfl ?_
    have hdk:=dep_part hkl
    refine TL.callV hF (IH e.l[k] (by omega) (he.part hkl) ([(b2,Obj.cells #[.int .i64 e.op,.int .i64 e.n,.slice e.a e.l.length e.c] 87 (0,0))]::η)) rfl rfl ?_
    refine TL.not hF rfl rfl ?_
    refine TL.nil ?_
    refine TQ.then_n ?_
    first | refine T.cond_d rfl (fun ht62=>?_) (fun ht62=>?_) | refine T.cond _ rfl (fun ht62=>?_) (fun ht62=>?_)
    ·refine T.seq ?_
     refine T.region ?_
     refine TL.assign hF rfl rfl ?_
     refine TL.nil ?_
     refine TQ.then_n ?_
     refine T.ret ?_
     refine TQ.block_r ?_
     refine TQ.then_r ?_
     refine TQ.then_r ?_
     refine TQ.block_r ?_
     refine TQ.then_r ?_
     refine TQ.pop ?_
     refine TQ.rets [4] _ rfl rfl rfl ?_
     first | exact ⟨congrArg Value.bool (right_no (rk_not ht47)).symm,rfl⟩ | exact ⟨congrArg Value.bool (right_part hkl ht62).symm,rfl⟩ | exact ⟨congrArg Value.bool (right_yes hok ht52 hall).symm,rfl⟩
    ·refine T.skip ?_
     refine TQ.block_n ?_
     refine TQ.then_n ?_
     refine T.region ?_
     refine TL.move hF rfl rfl ?_
     refine TL.add hF rfl rfl (by omega) (by omega) rfl ?_
     refine TL.assign hF rfl rfl ?_
     refine TL.nil ?_
     refine TQ.round (k+1) ⟨by omega,fun x hx=>?_⟩ (by omega) ⟨rfl,rfl,rfl,rfl,trivial⟩ rfl
     rw [List.take_succ_eq_append_getElem hkl] at hx
     rcases List.mem_append.1 hx with h | h
     ·exact hall x h
     ·rw [List.mem_singleton.1 h]; simpa using ht62
   ·refine T.exit ?_
    refine TQ.then_x ?_
    refine TQ.then_x ?_
    refine TQ.block_x ?_
    refine TQ.then_n ?_
    refine T.seq ?_
    refine T.region ?_
    refine TL.assign hF rfl rfl ?_
    refine TL.nil ?_
    refine TQ.then_n ?_
    refine T.ret ?_
    refine TQ.pop ?_
    refine TQ.rets [4] _ rfl rfl rfl ?_
    first | exact ⟨congrArg Value.bool (right_no (rk_not ht47)).symm,rfl⟩ | exact ⟨congrArg Value.bool (right_part hkl ht62).symm,rfl⟩ | exact ⟨congrArg Value.bool (right_yes hok ht52 hall).symm,rfl⟩
theorem right_all {funs:Int} (hf1:0≤funs) (hf2:funs≤100):∀ m:Nat,∀ x:TE,depE x.ex<m→Tr S w0 [] x→∀ η:Heap,Rt Tryz.prog 38 [teV x,.int .i64 funs].toArray S w0 η (fun v η'=>v = .bool (rightE funs x.ex)∧η'=η)
 | 0,x,h=>by omega
 | m+1,x,h=>fun hx _=>right_step hf1 hf2 m (right_all hf1 hf2 m) x (by omega) hx
theorem right_fn {funs:Int} (hf1:0≤funs) (hf2:funs≤100) (x:TE) (hx:Tr S w0 [] x):Rt Tryz.prog 38 [teV x,.int .i64 funs].toArray S w0 η (fun v η'=>v = .bool (rightE funs x.ex)∧η'=η):=right_all hf1 hf2 (depE x.ex+1) x (by omega) hx η
set_option maxHeartbeats 2000000 in
theorem CheckR_fn {a : Option Addr} {l : List TE} {c : Nat} (hf : Fs S w0 [] a l) (hl : l.length < 9223372036854775808) :
    Rt Tryz.prog 13 [.slice a l.length c].toArray S w0 η (fun v η'=>v = .int .i64 (checkS (l.map TE.ex))∧η'=η):=by
  have hF:=open_wide
  refine Rt.of (fn:=Tryz.f13) Tryz.func13 rfl rfl ?_
  refine T.seq ?_
  refine T.region ?_
  refine TL.assign hF rfl rfl ?_
  refine TL.nil ?_
  refine TQ.then_n ?_
  refine T.seq ?_
  refine T.seq ?_
  refine T.region ?_
  refine TL.move hF rfl rfl ?_
  refine TL.len hF rfl rfl ?_
  refine TL.callV hF (Lies_fn (l.length:Int) 1 8) rfl rfl ?_
  refine TL.not hF rfl rfl ?_
  refine TL.nil ?_
  refine TQ.then_n ?_
  refine T.cond _ rfl (fun ht7=>?_) (fun ht7=>?_)
  · refine T.seq ?_
    refine T.region ?_
    refine TL.assign hF rfl rfl ?_
    refine TL.nil ?_
    refine TQ.then_n ?_
    refine T.ret ?_
    refine TQ.then_r ?_
    refine TQ.rets [2] _ rfl rfl rfl ?_
    first
      | exact ⟨congrArg (Value.int .i64) (by rw [checkS_len (by simp at ht7; omega)]),rfl⟩
      | (refine ⟨congrArg (Value.int .i64) ?_, rfl⟩
         rw [checkS_all hrange,if_neg]
         intro h9
         have h8:=List.all_eq_true.1 h9 l[k] (List.getElem_mem hkl)
         unfold okE at h8
         simp only [Bool.and_eq_true,decide_eq_true_eq] at h8
         first
           | (have h : ((min (depE l[k].ex) (21 + 1) : Nat) : Int) > 20 := g6_20
              omega)
           | (have h : N > 40 := g6_28
              omega)
           | (rw [h8.2] at ht37; cases ht37))
      | (refine ⟨congrArg (Value.int .i64) ?_, rfl⟩
         rw [checkS_all hrange,if_pos]
         have h:¬ (k:Int)<(l.length:Int):=ht11
         rw [List.take_of_length_le (by omega)] at hno
         exact List.all_eq_true.2 hno)
  · refine T.skip ?_
    refine TQ.then_n ?_
    refine T.seq ?_
    refine T.seq ?_
    refine T.region ?_
    refine TL.assign hF rfl rfl ?_
    refine TL.nil ?_
    refine TQ.then_n ?_
    refine T.block ?_
    have hrange:1≤l.length∧l.length≤8:=by simp at ht7; omega
    refine T.loop (ι:=Nat) (fun k=>k≤l.length∧∀ x∈l.take k,okE l.length x.ex=true) (fun k=>[(0,.slice a l.length c),(2,.int .i64 0),(3,.int .i64 (k:Int))]) (fun _=>η) (fun k=>l.length - k) 0 ⟨Nat.zero_le _,by simp⟩ ⟨rfl,rfl,rfl,trivial⟩ rfl ?_
    rintro k ⟨hk,hno⟩
    refine T.seq ?_
    refine T.seq ?_
    refine T.region ?_
    refine TL.move hF rfl rfl ?_
    refine TL.move hF rfl rfl ?_
    refine TL.len hF rfl rfl ?_
    refine TL.bin hF rfl rfl rfl rfl ?_
    refine TL.nil ?_
    refine TQ.then_n ?_
    first | refine T.cond_d rfl (fun ht11=>?_) (fun ht11=>?_) | refine T.cond _ rfl (fun ht11=>?_) (fun ht11=>?_)
    · refine T.skip ?_
      refine TQ.then_n ?_
      refine T.seq ?_
      refine T.block ?_
      refine T.seq ?_
      refine T.region ?_
      refine TL.move hF rfl rfl ?_
      refine TL.move hF rfl rfl ?_
      have hkl:k<l.length:=by have h:(k:Int)<(l.length:Int):=ht11; omega
      have hx:=hf.item _ (List.getElem_mem hkl)
      refine TL.indexAddr hF rfl rfl (hf.ad hkl) (by omega) (by omega) rfl ?_
      refine TL.loadA hF (teC l[k]) rfl rfl (hf.ro.atA (i:=k) hkl) rfl ?_
      refine TL.callV hF (deep_fn 21 (by decide) l[k] hx η) rfl rfl ?_
      refine TL.bin hF rfl rfl rfl rfl ?_
      refine TL.move hF rfl rfl ?_
      refine TL.gd (t:=20) rfl (fun g6_20=>?_) (fun g6_20=>?_)
      · refine TL.off hF rfl rfl rfl (decide_eq_true g6_20) rfl ?_
        refine TL.off hF rfl rfl rfl (decide_eq_true g6_20) rfl ?_
        refine TL.off hF rfl rfl rfl (decide_eq_true g6_20) rfl ?_
        refine TL.off hF rfl rfl rfl (decide_eq_true g6_20) rfl ?_
        refine TL.off hF rfl rfl rfl (decide_eq_true g6_20) rfl ?_
        refine TL.off hF rfl rfl rfl (decide_eq_true g6_20) rfl ?_
        refine TL.pickT hF rfl (decide_eq_true g6_20) rfl rfl ?_
        refine TL.move hF rfl rfl ?_
        refine TL.off hF rfl rfl rfl rfl rfl ?_
        refine TL.off hF rfl rfl rfl rfl rfl ?_
        refine TL.off hF rfl rfl rfl rfl rfl ?_
        refine TL.off hF rfl rfl rfl rfl rfl ?_
        refine TL.off hF rfl rfl rfl rfl rfl ?_
        refine TL.off hF rfl rfl rfl rfl rfl ?_
        refine TL.off hF rfl rfl rfl rfl rfl ?_
        refine TL.off hF rfl rfl rfl rfl rfl ?_
        refine TL.pickT hF rfl rfl rfl rfl ?_
        refine TL.nil ?_
        refine TQ.then_n ?_
        refine T.cond_t rfl rfl ?_
        refine T.seq ?_
        refine T.region ?_
        refine TL.assign hF rfl rfl ?_
        refine TL.nil ?_
        refine TQ.then_n ?_
        refine T.ret ?_
        refine TQ.block_r ?_
        refine TQ.then_r ?_
        refine TQ.then_r ?_
        refine TQ.block_r ?_
        refine TQ.then_r ?_
        refine TQ.rets [2] _ rfl rfl rfl ?_
        first
          | exact ⟨congrArg (Value.int .i64) (by rw [checkS_len (by simp at ht7; omega)]),rfl⟩
          | (refine ⟨congrArg (Value.int .i64) ?_, rfl⟩
             rw [checkS_all hrange,if_neg]
             intro h9
             have h8:=List.all_eq_true.1 h9 l[k] (List.getElem_mem hkl)
             unfold okE at h8
             simp only [Bool.and_eq_true,decide_eq_true_eq] at h8
             first
               | (have h : ((min (depE l[k].ex) (21 + 1) : Nat) : Int) > 20 := g6_20
                  omega)
               | (have h : N > 40 := g6_28
                  omega)
               | (rw [h8.2] at ht37; cases ht37))
          | (refine ⟨congrArg (Value.int .i64) ?_, rfl⟩
             rw [checkS_all hrange,if_pos]
             have h:¬ (k:Int)<(l.length:Int):=ht11
             rw [List.take_of_length_le (by omega)] at hno
             exact List.all_eq_true.2 hno)
      · refine TL.on rfl rfl rfl (decide_eq_false g6_20) ?_
        refine TL.move hF rfl rfl ?_
        refine TL.on rfl rfl rfl (decide_eq_false g6_20) ?_
        refine TL.move hF rfl rfl ?_
        refine TL.on rfl rfl rfl (decide_eq_false g6_20) ?_
        refine TL.indexAddr hF rfl rfl (hf.ad hkl) (by omega) (by omega) rfl ?_
        refine TL.on rfl rfl rfl (decide_eq_false g6_20) ?_
        refine TL.loadA hF (teC l[k]) rfl rfl (hf.ro.atA (i:=k) hkl) rfl ?_
        refine TL.on rfl rfl rfl (decide_eq_false g6_20) ?_
        have hd20:depE l[k].ex≤20:=by have h:¬ (((min (depE l[k].ex) (21+1):Nat):Int)>20):=g6_20; omega
        refine TL.call hF (nodes_fn l[k] hd20 hx) rfl rfl ?_
        rintro _ _ ⟨N,rfl,hN1,hN2,hN3,hN4,rfl⟩
        refine TL.on rfl rfl rfl (decide_eq_false g6_20) ?_
        refine TL.bin hF rfl rfl rfl rfl ?_
        refine TL.pickF hF rfl (decide_eq_false g6_20) rfl rfl ?_
        refine TL.move hF rfl rfl ?_
        refine TL.gd (t:=28) rfl (fun g6_28=>?_) (fun g6_28=>?_)
        · refine TL.off hF rfl rfl rfl (decide_eq_true g6_28) rfl ?_
          refine TL.off hF rfl rfl rfl (decide_eq_true g6_28) rfl ?_
          refine TL.off hF rfl rfl rfl (decide_eq_true g6_28) rfl ?_
          refine TL.off hF rfl rfl rfl (decide_eq_true g6_28) rfl ?_
          refine TL.off hF rfl rfl rfl (decide_eq_true g6_28) rfl ?_
          refine TL.off hF rfl rfl rfl (decide_eq_true g6_28) rfl ?_
          refine TL.off hF rfl rfl rfl (decide_eq_true g6_28) rfl ?_
          refine TL.off hF rfl rfl rfl (decide_eq_true g6_28) rfl ?_
          refine TL.pickT hF rfl (decide_eq_true g6_28) rfl rfl ?_
          refine TL.nil ?_
          refine TQ.then_n ?_
          refine T.cond_t rfl rfl ?_
          refine T.seq ?_
          refine T.region ?_
          refine TL.assign hF rfl rfl ?_
          refine TL.nil ?_
          refine TQ.then_n ?_
          refine T.ret ?_
          refine TQ.block_r ?_
          refine TQ.then_r ?_
          refine TQ.then_r ?_
          refine TQ.block_r ?_
          refine TQ.then_r ?_
          refine TQ.rets [2] _ rfl rfl rfl ?_
          first
            | exact ⟨congrArg (Value.int .i64) (by rw [checkS_len (by simp at ht7; omega)]),rfl⟩
            | (refine ⟨congrArg (Value.int .i64) ?_, rfl⟩
               rw [checkS_all hrange,if_neg]
               intro h9
               have h8:=List.all_eq_true.1 h9 l[k] (List.getElem_mem hkl)
               unfold okE at h8
               simp only [Bool.and_eq_true,decide_eq_true_eq] at h8
               first
                 | (have h : ((min (depE l[k].ex) (21 + 1) : Nat) : Int) > 20 := g6_20
                    omega)
                 | (have h : N > 40 := g6_28
                    omega)
                 | (rw [h8.2] at ht37; cases ht37))
            | (refine ⟨congrArg (Value.int .i64) ?_, rfl⟩
               rw [checkS_all hrange,if_pos]
               have h:¬ (k:Int)<(l.length:Int):=ht11
               rw [List.take_of_length_le (by omega)] at hno
               exact List.all_eq_true.2 hno)
        · refine TL.on rfl rfl rfl (decide_eq_false g6_28) ?_
          refine TL.move hF rfl rfl ?_
          refine TL.on rfl rfl rfl (decide_eq_false g6_28) ?_
          refine TL.move hF rfl rfl ?_
          refine TL.on rfl rfl rfl (decide_eq_false g6_28) ?_
          refine TL.indexAddr hF rfl rfl (hf.ad hkl) (by omega) (by omega) rfl ?_
          refine TL.on rfl rfl rfl (decide_eq_false g6_28) ?_
          refine TL.loadA hF (teC l[k]) rfl rfl (hf.ro.atA (i:=k) hkl) rfl ?_
          refine TL.on rfl rfl rfl (decide_eq_false g6_28) ?_
          refine TL.move hF rfl rfl ?_
          refine TL.on rfl rfl rfl (decide_eq_false g6_28) ?_
          refine TL.len hF rfl rfl ?_
          refine TL.on rfl rfl rfl (decide_eq_false g6_28) ?_
          refine TL.callV hF (right_fn (funs:=(l.length:Int)) (by omega) (by omega) l[k] hx) rfl rfl ?_
          refine TL.on rfl rfl rfl (decide_eq_false g6_28) ?_
          refine TL.not hF rfl rfl ?_
          refine TL.pickF hF rfl (decide_eq_false g6_28) rfl rfl ?_
          refine TL.nil ?_
          refine TQ.then_n ?_
          refine T.cond _ rfl (fun ht37=>?_) (fun ht37=>?_)
          · refine T.seq ?_
            refine T.region ?_
            refine TL.assign hF rfl rfl ?_
            refine TL.nil ?_
            refine TQ.then_n ?_
            refine T.ret ?_
            refine TQ.block_r ?_
            refine TQ.then_r ?_
            refine TQ.then_r ?_
            refine TQ.block_r ?_
            refine TQ.then_r ?_
            refine TQ.rets [2] _ rfl rfl rfl ?_
            first
              | exact ⟨congrArg (Value.int .i64) (by rw [checkS_len (by simp at ht7; omega)]),rfl⟩
              | (refine ⟨congrArg (Value.int .i64) ?_, rfl⟩
                 rw [checkS_all hrange,if_neg]
                 intro h9
                 have h8:=List.all_eq_true.1 h9 l[k] (List.getElem_mem hkl)
                 unfold okE at h8
                 simp only [Bool.and_eq_true,decide_eq_true_eq] at h8
                 first
                   | (have h : ((min (depE l[k].ex) (21 + 1) : Nat) : Int) > 20 := g6_20
                      omega)
                   | (have h : N > 40 := g6_28
                      omega)
                   | (rw [h8.2] at ht37; cases ht37))
              | (refine ⟨congrArg (Value.int .i64) ?_, rfl⟩
                 rw [checkS_all hrange,if_pos]
                 have h:¬ (k:Int)<(l.length:Int):=ht11
                 rw [List.take_of_length_le (by omega)] at hno
                 exact List.all_eq_true.2 hno)
          · refine T.skip ?_
            refine TQ.block_n ?_
            refine TQ.then_n ?_
            refine T.region ?_
            refine TL.move hF rfl rfl ?_
            refine TL.add hF rfl rfl (by omega) (by omega) rfl ?_
            refine TL.assign hF rfl rfl ?_
            refine TL.nil ?_
            refine TQ.round (k+1) ⟨by omega,fun x hx2=>?_⟩ (by omega) ⟨rfl,rfl,rfl,trivial⟩ rfl
            rw [List.take_succ_eq_append_getElem hkl] at hx2
            rcases List.mem_append.1 hx2 with h | h
            · exact hno x h
            · rw [List.mem_singleton.1 h]
              unfold okE
              have h1:¬ N>40:=g6_28
              have h2:rightE (l.length:Int) l[k].ex=true:=by simpa using ht37
              rw [h2]; simp; omega
    · refine T.exit ?_
      refine TQ.then_x ?_
      refine TQ.then_x ?_
      refine TQ.block_x ?_
      refine TQ.then_n ?_
      refine T.seq ?_
      refine T.region ?_
      refine TL.assign hF rfl rfl ?_
      refine TL.nil ?_
      refine TQ.then_n ?_
      refine T.ret ?_
      refine TQ.rets [2] _ rfl rfl rfl ?_
      first
        | exact ⟨congrArg (Value.int .i64) (by rw [checkS_len (by simp at ht7; omega)]),rfl⟩
        | (refine ⟨congrArg (Value.int .i64) ?_, rfl⟩
           rw [checkS_all hrange,if_neg]
           intro h9
           have h8:=List.all_eq_true.1 h9 l[k] (List.getElem_mem hkl)
           unfold okE at h8
           simp only [Bool.and_eq_true,decide_eq_true_eq] at h8
           first
             | (have h : ((min (depE l[k].ex) (21 + 1) : Nat) : Int) > 20 := g6_20
                omega)
             | (have h : N > 40 := g6_28
                omega)
             | (rw [h8.2] at ht37; cases ht37))
        | (refine ⟨congrArg (Value.int .i64) ?_, rfl⟩
           rw [checkS_all hrange,if_pos]
           have h:¬ (k:Int)<(l.length:Int):=ht11
           rw [List.take_of_length_le (by omega)] at hno
           exact List.all_eq_true.2 hno)
theorem checkS_one {l:List Ex} (h:checkS l≠0):checkS l=1:=by
 unfold checkS at h ⊢
 split
 ·rename_i h2; rw [if_pos h2] at h; exact absurd rfl h
 ·rfl
set_option maxHeartbeats 2000000 in
theorem asked_fn {a b : Option Addr} {l : List TE} {cells : List Int} {top : Key} {c d : Nat} (hf : Fs S w0 [] a l) (hl : l.length < 9223372036854775808) (hc : Row S w0 [] b (ints cells)) (hcl : cells.length < 9223372036854775808) :
  Rt Tryz.prog 28 [.slice a l.length c,.slice b cells.length d,kV top].toArray S w0 η (fun v η'=>v = .int .i64 (askedS (l.map TE.ex) cells top)∧η'=η):=by
 have hF:=open_wide
 refine Rt.of (fn:=Tryz.f28) Tryz.func28 rfl rfl ?_
 refine T.seq ?_
 refine T.region ?_
 refine TL.box hF rfl rfl (fun b5=>?_)
 refine TL.assign hF rfl rfl ?_
 refine TL.nil ?_
 refine TQ.then_n ?_
 refine T.seq ?_
 refine T.seq ?_
 refine T.region ?_
 refine TL.move hF rfl rfl ?_
 refine TL.callV hF (CheckR_fn hf hl) rfl rfl ?_
 refine TL.assign hF rfl rfl ?_
 refine TL.nil ?_
 refine TQ.then_n ?_
 refine T.seq ?_
 refine T.region ?_
 refine TL.move hF rfl rfl ?_
 refine TL.bin hF rfl rfl rfl rfl ?_
 refine TL.nil ?_
 refine TQ.then_n ?_
 refine T.cond_d rfl (fun ht11=>?_) (fun ht11=>?_)
 ·refine T.seq ?_
  refine T.region ?_
  refine TL.move hF rfl rfl ?_
  refine TL.assign hF rfl rfl ?_
  refine TL.nil ?_
  refine TQ.then_n ?_
  refine T.ret ?_
  refine TQ.then_r ?_
  refine TQ.pop ?_
  refine TQ.rets [6] _ rfl rfl rfl ?_
  refine ⟨congrArg (Value.int .i64) ?_,rfl⟩
  unfold askedS
  rw [if_neg ht11]; exact checkS_one ht11
 ·refine T.skip ?_
  refine TQ.then_n ?_
  refine T.seq ?_
  refine T.seq ?_
  refine T.region ?_
  refine TL.move hF rfl rfl ?_
  refine TL.len hF rfl rfl ?_
  refine TL.callV hF (Lies_fn (cells.length:Int) 1 100) rfl rfl ?_
  refine TL.not hF rfl rfl ?_
  refine TL.move hF rfl rfl ?_
  refine TL.join [_,_,_,_] 21 (.bool ((!(decide (1≤(cells.length:Int)) && decide ((cells.length:Int)≤100))) || !(cells.all isW))) rfl ?_ ?_
  ·refine TL.gb (t:=17) rfl (fun g4_17=>?_) (fun g4_17=>?_)
   ·refine TL.off hF rfl rfl rfl g4_17 rfl ?_
    refine TL.off hF rfl rfl rfl g4_17 rfl ?_
    refine TL.off hF rfl rfl rfl g4_17 rfl ?_
    refine TL.pickT hF rfl g4_17 rfl rfl ?_
    refine TL.finJ ⟨?_,by repeat (first | exact trivial | refine ⟨rfl,?_⟩)⟩
    exact congrArg (fun z=>some (Value.bool z)) (by first | (rw [g4_17]; rfl) | (rw [g4_17]; simp; done) | (simp [*]; done))
   ·refine TL.on rfl rfl rfl g4_17 ?_
    refine TL.move hF rfl rfl ?_
    refine TL.on rfl rfl rfl g4_17 ?_
    refine TL.callV hF (Words_fn (Row.ro hc) (by omega)) rfl rfl ?_
    refine TL.on rfl rfl rfl g4_17 ?_
    refine TL.not hF rfl rfl ?_
    refine TL.pickF hF rfl g4_17 rfl rfl ?_
    refine TL.finJ ⟨?_,by repeat (first | exact trivial | refine ⟨rfl,?_⟩)⟩
    exact congrArg (fun z=>some (Value.bool z)) (by first | (rw [g4_17]; rfl) | (rw [g4_17]; simp; done) | (simp [*]; done))
  ·refine TL.move hF rfl rfl ?_
   refine TL.join [_,_,_,_,_,_,_,_] 30 (.bool (((!(decide (1≤(cells.length:Int)) && decide ((cells.length:Int)≤100))) || !(cells.all isW)) || !(decide (0≤top.1) && decide (top.1≤(l.length:Int)-1)))) rfl ?_ ?_
   ·refine TL.gb (t:=22) rfl (fun g4_22=>?_) (fun g4_22=>?_)
    ·refine TL.off hF rfl rfl rfl g4_22 rfl ?_
     refine TL.off hF rfl rfl rfl g4_22 rfl ?_
     refine TL.off hF rfl rfl rfl g4_22 rfl ?_
     refine TL.off hF rfl rfl rfl g4_22 rfl ?_
     refine TL.off hF rfl rfl rfl g4_22 rfl ?_
     refine TL.off hF rfl rfl rfl g4_22 rfl ?_
     refine TL.off hF rfl rfl rfl g4_22 rfl ?_
     refine TL.pickT hF rfl g4_22 rfl rfl ?_
     refine TL.finJ ⟨?_,by repeat (first | exact trivial | refine ⟨rfl,?_⟩)⟩
     exact congrArg (fun z=>some (Value.bool z)) (by first | (rw [g4_22]; rfl) | (rw [g4_22]; simp; done) | (simp [*]; done))
    ·refine TL.on rfl rfl rfl g4_22 ?_
     refine TL.fieldAddr hF rfl rfl ?_
     refine TL.on rfl rfl rfl g4_22 ?_
     refine TL.load hF rfl (own_mem (b:=b5) (cs:=(kC top).toArray) (e:=25) (fz:=(0,0)) (List.mem_cons.2 (.inl rfl)) rfl) rfl ?_
     refine TL.on rfl rfl rfl g4_22 ?_
     refine TL.move hF rfl rfl ?_
     refine TL.on rfl rfl rfl g4_22 ?_
     refine TL.len hF rfl rfl ?_
     refine TL.on rfl rfl rfl g4_22 ?_
     refine TL.sub hF rfl rfl (by omega) (by omega) rfl ?_
     refine TL.on rfl rfl rfl g4_22 ?_
     refine TL.callV hF (Lies_fn top.1 0 ((l.length:Int)-1)) rfl rfl ?_
     refine TL.on rfl rfl rfl g4_22 ?_
     refine TL.not hF rfl rfl ?_
     refine TL.pickF hF rfl g4_22 rfl rfl ?_
     refine TL.finJ ⟨?_,by repeat (first | exact trivial | refine ⟨rfl,?_⟩)⟩
     exact congrArg (fun z=>some (Value.bool z)) (by first | (rw [g4_22]; rfl) | (rw [g4_22]; simp; done) | (simp [*]; done))
   ·refine TL.move hF rfl rfl ?_
    refine TL.join [_,_,_,_,_] 36 (.bool ((((!(decide (1≤(cells.length:Int)) && decide ((cells.length:Int)≤100))) || !(cells.all isW)) || !(decide (0≤top.1) && decide (top.1≤(l.length:Int)-1))) || !(decide (0≤top.2) && decide (top.2≤200)))) rfl ?_ ?_
    ·refine TL.gb (t:=31) rfl (fun g4_31=>?_) (fun g4_31=>?_)
     ·refine TL.off hF rfl rfl rfl g4_31 rfl ?_
      refine TL.off hF rfl rfl rfl g4_31 rfl ?_
      refine TL.off hF rfl rfl rfl g4_31 rfl ?_
      refine TL.off hF rfl rfl rfl g4_31 rfl ?_
      refine TL.pickT hF rfl g4_31 rfl rfl ?_
      refine TL.finJ ⟨?_,by repeat (first | exact trivial | refine ⟨rfl,?_⟩)⟩
      exact congrArg (fun z=>some (Value.bool z)) (by first | (rw [g4_31]; rfl) | (rw [g4_31]; simp; done) | (simp [*]; done))
     ·refine TL.on rfl rfl rfl g4_31 ?_
      refine TL.fieldAddr hF rfl rfl ?_
      refine TL.on rfl rfl rfl g4_31 ?_
      refine TL.load hF rfl (own_mem (b:=b5) (cs:=(kC top).toArray) (e:=25) (fz:=(0,0)) (List.mem_cons.2 (.inl rfl)) rfl) rfl ?_
      refine TL.on rfl rfl rfl g4_31 ?_
      refine TL.callV hF (Lies_fn top.2 0 200) rfl rfl ?_
      refine TL.on rfl rfl rfl g4_31 ?_
      refine TL.not hF rfl rfl ?_
      refine TL.pickF hF rfl g4_31 rfl rfl ?_
      refine TL.finJ ⟨?_,by repeat (first | exact trivial | refine ⟨rfl,?_⟩)⟩
      exact congrArg (fun z=>some (Value.bool z)) (by first | (rw [g4_31]; rfl) | (rw [g4_31]; simp; done) | (simp [*]; done))
    ·refine TL.nil ?_
     refine TQ.then_n ?_
     refine T.cond _ rfl (fun ht36=>?_) (fun ht36=>?_)
     ·refine T.seq ?_
      refine T.region ?_
      refine TL.assign hF rfl rfl ?_
      refine TL.nil ?_
      refine TQ.then_n ?_
      refine T.ret ?_
      refine TQ.then_r ?_
      refine TQ.pop ?_
      refine TQ.rets [6] _ rfl rfl rfl ?_
      refine ⟨congrArg (Value.int .i64) ?_,rfl⟩
      unfold askedS
      rw [if_pos (Classical.not_not.1 ht11),if_neg]
      intro h
      have e:=asked_eq (l:=l.map TE.ex) (cells:=cells) (top:=top)
      rw [List.length_map] at e
      rw [e,h] at ht36; cases ht36
     ·refine T.skip ?_
      refine TQ.then_n ?_
      refine T.seq ?_
      refine T.region ?_
      refine TL.assign hF rfl rfl ?_
      refine TL.nil ?_
      refine TQ.then_n ?_
      refine T.ret ?_
      refine TQ.pop ?_
      refine TQ.rets [6] _ rfl rfl rfl ?_
      refine ⟨congrArg (Value.int .i64) ?_,rfl⟩
      unfold askedS
      rw [if_pos (Classical.not_not.1 ht11),if_pos]
      have e:=asked_eq (l:=l.map TE.ex) (cells:=cells) (top:=top)
      rw [List.length_map] at e
      rw [e] at ht36
      cases hx:(okCells cells && okTop (l.map TE.ex) top) <;> rw [hx] at ht36 <;> first | rfl | cases ht36
end Go.Proofs.YtdiacobmhkmljaaGreatDoor
/- The reference: words; which call comes first. -/
namespace Go.Proofs.YtdiacobmhkmljaaGreatDoor
open Go.Sl
variable {S:Nat→Prop} {w0:World} {η:Heap}
set_option maxHeartbeats 2000000 in
theorem Wrap5_fn {n : Int} :
  Rt Tryz.prog 99 [.int .i64 n].toArray S w0 η (fun v η'=>v = .int .i64 (wrap32 n)∧η'=η):=by
 have hF:=open_wide
 refine Rt.of (fn:=Tryz.f99) Tryz.func99 rfl rfl ?_
 refine T.seq ?_
 refine T.region ?_
 refine TL.assign hF rfl rfl ?_
 refine TL.nil ?_
 refine TQ.then_n ?_
 refine T.seq ?_
 refine T.region ?_
 refine TL.move hF rfl rfl ?_
 refine TL.convK hF (r:=wrap32 n) rfl wrap_i32 rfl ?_
 have hw:=wd_wrap n
 unfold Wd at hw
 refine TL.convK hF (r:=wrap32 n) rfl (wrap_i64 (by omega) (by omega)) rfl ?_
 refine TL.assign hF rfl rfl ?_
 refine TL.nil ?_
 refine TQ.then_n ?_
 refine T.ret ?_
 refine TQ.rets [2] _ rfl rfl rfl ?_
 exact ⟨rfl,rfl⟩
set_option maxHeartbeats 2000000 in
theorem quotient_fn {a b : Int} (ha : Wd a) (hb : Wd b) :
  Rt Tryz.prog 100 [.int .i64 a,.int .i64 b].toArray S w0 η (fun v η'=>v = .int .i64 (wrap32 (quoS a b))∧η'=η):=by
 have hq:=tdiv_abs a b
 have hm:=tdiv_mul_abs a b
 unfold Wd at ha hb
 have _:=hb
 have hF:=open_wide
 refine Rt.of (fn:=Tryz.f100) Tryz.func100 rfl rfl ?_
 refine T.seq ?_
 refine T.region ?_
 refine TL.assign hF rfl rfl ?_
 refine TL.nil ?_
 refine TQ.then_n ?_
 refine T.seq ?_
 refine T.seq ?_
 refine T.region ?_
 refine TL.move hF rfl rfl ?_
 refine TL.bin hF rfl rfl rfl rfl ?_
 refine TL.nil ?_
 refine TQ.then_n ?_
 refine T.cond_d rfl (fun ht7=>?_) (fun ht7=>?_)
 ·refine T.seq ?_
  refine T.region ?_
  refine TL.assign hF rfl rfl ?_
  refine TL.nil ?_
  refine TQ.then_n ?_
  refine T.ret ?_
  refine TQ.then_r ?_
  refine TQ.rets [4] _ rfl rfl rfl ?_
  exact ⟨by unfold quoS; rw [if_pos ht7]; rfl,rfl⟩
 ·refine T.skip ?_
  refine TQ.then_n ?_
  refine T.seq ?_
  refine T.region ?_
  refine TL.move hF rfl rfl ?_
  refine TL.move hF rfl rfl ?_
  refine TL.quoI hF rfl rfl ht7 (wrap_i64 (by omega) (by omega)) rfl ?_
  refine TL.assign hF rfl rfl ?_
  refine TL.nil ?_
  refine TQ.then_n ?_
  refine T.seq ?_
  refine T.seq ?_
  refine T.region ?_
  refine TL.move hF rfl rfl ?_
  refine TL.move hF rfl rfl ?_
  refine TL.mul hF rfl rfl (by omega) (by omega) rfl ?_
  refine TL.move hF rfl rfl ?_
  refine TL.bin hF rfl rfl rfl rfl ?_
  refine TL.move hF rfl rfl ?_
  refine TL.gb (t:=16) rfl (fun g4_16=>?_) (fun g4_16=>?_)
  ·refine TL.on rfl rfl rfl g4_16 ?_
   refine TL.move hF rfl rfl ?_
   refine TL.on rfl rfl rfl g4_16 ?_
   refine TL.bin hF rfl rfl rfl rfl ?_
   refine TL.on rfl rfl rfl g4_16 ?_
   refine TL.move hF rfl rfl ?_
   refine TL.on rfl rfl rfl g4_16 ?_
   refine TL.bin hF rfl rfl rfl rfl ?_
   refine TL.on rfl rfl rfl g4_16 ?_
   refine TL.neqB hF rfl rfl rfl ?_
   refine TL.pickT hF rfl g4_16 rfl rfl ?_
   refine TL.nil ?_
   refine TQ.then_n ?_
   refine T.cond _ rfl (fun ht22=>?_) (fun ht22=>?_)
   ·refine T.region ?_
    refine TL.move hF rfl rfl ?_
    refine TL.sub hF rfl rfl (by omega) (by omega) rfl ?_
    refine TL.assign hF rfl rfl ?_
    refine TL.nil ?_
    refine TQ.then_n ?_
    refine T.seq ?_
    refine T.region ?_
    refine TL.move hF rfl rfl ?_
    refine TL.callV hF (Wrap5_fn) rfl rfl ?_
    refine TL.assign hF rfl rfl ?_
    refine TL.nil ?_
    refine TQ.then_n ?_
    refine T.ret ?_
    refine TQ.rets [4] _ rfl rfl rfl ?_
    have h1:Int.tdiv a b*b≠a:=by simpa using g4_16
    have h2:(decide (a<0))≠(decide (b<0)):=by simpa using ht22
    have e:=quo_eq (a:=a) ht7
    rw [if_pos ⟨h1,h2⟩] at e
    exact ⟨by rw [← e]; rfl,rfl⟩
   ·refine T.skip ?_
    refine TQ.then_n ?_
    refine T.seq ?_
    refine T.region ?_
    refine TL.move hF rfl rfl ?_
    refine TL.callV hF (Wrap5_fn) rfl rfl ?_
    refine TL.assign hF rfl rfl ?_
    refine TL.nil ?_
    refine TQ.then_n ?_
    refine T.ret ?_
    refine TQ.rets [4] _ rfl rfl rfl ?_
    have h2:¬ ((decide (a<0))≠(decide (b<0))):=by simpa using ht22
    have e:=quo_eq (a:=a) ht7
    rw [if_neg (fun h=>h2 h.2)] at e
    exact ⟨by rw [← e]; rfl,rfl⟩
  ·refine TL.off hF rfl rfl rfl g4_16 rfl ?_
   refine TL.off hF rfl rfl rfl g4_16 rfl ?_
   refine TL.off hF rfl rfl rfl g4_16 rfl ?_
   refine TL.off hF rfl rfl rfl g4_16 rfl ?_
   refine TL.off hF rfl rfl rfl g4_16 rfl ?_
   refine TL.pickF hF rfl g4_16 rfl rfl ?_
   refine TL.nil ?_
   refine TQ.then_n ?_
   refine T.cond_f rfl rfl ?_
   refine T.skip ?_
   refine TQ.then_n ?_
   refine T.seq ?_
   refine T.region ?_
   refine TL.move hF rfl rfl ?_
   refine TL.callV hF (Wrap5_fn) rfl rfl ?_
   refine TL.assign hF rfl rfl ?_
   refine TL.nil ?_
   refine TQ.then_n ?_
   refine T.ret ?_
   refine TQ.rets [4] _ rfl rfl rfl ?_
   have h1:¬ (Int.tdiv a b*b≠a):=by simpa using g4_16
   have e:=quo_eq (a:=a) ht7
   rw [if_neg (fun h=>h1 h.1)] at e
   exact ⟨by rw [← e]; rfl,rfl⟩
set_option maxHeartbeats 2000000 in
theorem Words5_fn {n a b : Int} (ha : Wd a) (hb : Wd b) :
  Rt Tryz.prog 79 [.int .i64 n,.int .i64 a,.int .i64 b].toArray S w0 η (fun v η'=>v = .int .i64 (binS n a b)∧η'=η):=by
 have hm:=mul_bnd ha hb
 have hm2:=mul_bnd hb (wd_wrap (quoS a b))
 have ha0:=ha
 have hb0:=hb
 unfold Wd at ha hb
 have hF:=open_wide
 refine Rt.of (fn:=Tryz.f79) Tryz.func79 rfl rfl ?_
 refine T.seq ?_
 refine T.region ?_
 refine TL.assign hF rfl rfl ?_
 refine TL.nil ?_
 refine TQ.then_n ?_
 refine T.seq ?_
 refine T.seq ?_
 refine T.region ?_
 refine TL.move hF rfl rfl ?_
 refine TL.nil ?_
 refine TQ.then_n ?_
 refine T.block ?_
 refine T.seq ?_
 refine T.region ?_
 refine TL.bin hF rfl rfl rfl rfl ?_
 refine TL.assign hF rfl rfl ?_
 refine TL.nil ?_
 refine TQ.then_n ?_
 refine T.cond_d rfl (fun ht8=>?_) (fun ht8=>?_)
 ·refine T.seq ?_
  refine T.region ?_
  refine TL.move hF rfl rfl ?_
  refine TL.move hF rfl rfl ?_
  refine TL.add hF rfl rfl (by omega) (by omega) rfl ?_
  refine TL.callV hF (Wrap5_fn) rfl rfl ?_
  refine TL.assign hF rfl rfl ?_
  refine TL.nil ?_
  refine TQ.then_n ?_
  refine T.ret ?_
  refine TQ.block_r ?_
  refine TQ.then_r ?_
  refine TQ.rets [6] _ rfl rfl rfl ?_
  exact ⟨congrArg (Value.int .i64) (by unfold binS; first | (simp [*]; done) | (rw [if_neg ht8,if_neg ht14,if_neg ht20,if_neg ht26,if_neg ht31,if_neg ht43,if_neg ht48,if_pos ht53]; rfl) | (rw [if_neg ht8,if_neg ht14,if_neg ht20,if_neg ht26,if_neg ht31,if_neg ht43,if_neg ht48,if_neg ht53,if_pos ht58]; rfl) | (rw [if_neg ht8,if_neg ht14,if_neg ht20,if_neg ht26,if_neg ht31,if_neg ht43,if_neg ht48,if_neg ht53,if_neg ht58]; rfl)),rfl⟩
 ·refine T.seq ?_
  refine T.region ?_
  refine TL.bin hF rfl rfl rfl rfl ?_
  refine TL.assign hF rfl rfl ?_
  refine TL.nil ?_
  refine TQ.then_n ?_
  refine T.cond_d rfl (fun ht14=>?_) (fun ht14=>?_)
  ·refine T.seq ?_
   refine T.region ?_
   refine TL.move hF rfl rfl ?_
   refine TL.move hF rfl rfl ?_
   refine TL.sub hF rfl rfl (by omega) (by omega) rfl ?_
   refine TL.callV hF (Wrap5_fn) rfl rfl ?_
   refine TL.assign hF rfl rfl ?_
   refine TL.nil ?_
   refine TQ.then_n ?_
   refine T.ret ?_
   refine TQ.block_r ?_
   refine TQ.then_r ?_
   refine TQ.rets [6] _ rfl rfl rfl ?_
   exact ⟨congrArg (Value.int .i64) (by unfold binS; first | (simp [*]; done) | (rw [if_neg ht8,if_neg ht14,if_neg ht20,if_neg ht26,if_neg ht31,if_neg ht43,if_neg ht48,if_pos ht53]; rfl) | (rw [if_neg ht8,if_neg ht14,if_neg ht20,if_neg ht26,if_neg ht31,if_neg ht43,if_neg ht48,if_neg ht53,if_pos ht58]; rfl) | (rw [if_neg ht8,if_neg ht14,if_neg ht20,if_neg ht26,if_neg ht31,if_neg ht43,if_neg ht48,if_neg ht53,if_neg ht58]; rfl)),rfl⟩
  ·refine T.seq ?_
   refine T.region ?_
   refine TL.bin hF rfl rfl rfl rfl ?_
   refine TL.assign hF rfl rfl ?_
   refine TL.nil ?_
   refine TQ.then_n ?_
   refine T.cond_d rfl (fun ht20=>?_) (fun ht20=>?_)
   ·refine T.seq ?_
    refine T.region ?_
    refine TL.move hF rfl rfl ?_
    refine TL.move hF rfl rfl ?_
    refine TL.mul hF rfl rfl (by omega) (by omega) rfl ?_
    refine TL.callV hF (Wrap5_fn) rfl rfl ?_
    refine TL.assign hF rfl rfl ?_
    refine TL.nil ?_
    refine TQ.then_n ?_
    refine T.ret ?_
    refine TQ.block_r ?_
    refine TQ.then_r ?_
    refine TQ.rets [6] _ rfl rfl rfl ?_
    exact ⟨congrArg (Value.int .i64) (by unfold binS; first | (simp [*]; done) | (rw [if_neg ht8,if_neg ht14,if_neg ht20,if_neg ht26,if_neg ht31,if_neg ht43,if_neg ht48,if_pos ht53]; rfl) | (rw [if_neg ht8,if_neg ht14,if_neg ht20,if_neg ht26,if_neg ht31,if_neg ht43,if_neg ht48,if_neg ht53,if_pos ht58]; rfl) | (rw [if_neg ht8,if_neg ht14,if_neg ht20,if_neg ht26,if_neg ht31,if_neg ht43,if_neg ht48,if_neg ht53,if_neg ht58]; rfl)),rfl⟩
   ·refine T.seq ?_
    refine T.region ?_
    refine TL.bin hF rfl rfl rfl rfl ?_
    refine TL.assign hF rfl rfl ?_
    refine TL.nil ?_
    refine TQ.then_n ?_
    refine T.cond_d rfl (fun ht26=>?_) (fun ht26=>?_)
    ·refine T.seq ?_
     refine T.region ?_
     refine TL.move hF rfl rfl ?_
     refine TL.move hF rfl rfl ?_
     refine TL.callV hF (quotient_fn ha0 hb0) rfl rfl ?_
     refine TL.assign hF rfl rfl ?_
     refine TL.nil ?_
     refine TQ.then_n ?_
     refine T.ret ?_
     refine TQ.block_r ?_
     refine TQ.then_r ?_
     refine TQ.rets [6] _ rfl rfl rfl ?_
     exact ⟨congrArg (Value.int .i64) (by unfold binS; first | (simp [*]; done) | (rw [if_neg ht8,if_neg ht14,if_neg ht20,if_neg ht26,if_neg ht31,if_neg ht43,if_neg ht48,if_pos ht53]; rfl) | (rw [if_neg ht8,if_neg ht14,if_neg ht20,if_neg ht26,if_neg ht31,if_neg ht43,if_neg ht48,if_neg ht53,if_pos ht58]; rfl) | (rw [if_neg ht8,if_neg ht14,if_neg ht20,if_neg ht26,if_neg ht31,if_neg ht43,if_neg ht48,if_neg ht53,if_neg ht58]; rfl)),rfl⟩
    ·refine T.seq ?_
     refine T.region ?_
     refine TL.bin hF rfl rfl rfl rfl ?_
     refine TL.assign hF rfl rfl ?_
     refine TL.nil ?_
     refine TQ.then_n ?_
     refine T.cond_d rfl (fun ht31=>?_) (fun ht31=>?_)
     ·refine T.seq ?_
      refine T.seq ?_
      refine T.region ?_
      refine TL.move hF rfl rfl ?_
      refine TL.bin hF rfl rfl rfl rfl ?_
      refine TL.nil ?_
      refine TQ.then_n ?_
      refine T.cond_d rfl (fun ht34=>?_) (fun ht34=>?_)
      ·refine T.seq ?_
       refine T.region ?_
       refine TL.assign hF rfl rfl ?_
       refine TL.nil ?_
       refine TQ.then_n ?_
       refine T.ret ?_
       refine TQ.then_r ?_
       refine TQ.block_r ?_
       refine TQ.then_r ?_
       refine TQ.rets [6] _ rfl rfl rfl ?_
       exact ⟨congrArg (Value.int .i64) (by unfold binS; first | (simp [*]; done) | (rw [if_neg ht8,if_neg ht14,if_neg ht20,if_neg ht26,if_neg ht31,if_neg ht43,if_neg ht48,if_pos ht53]; rfl) | (rw [if_neg ht8,if_neg ht14,if_neg ht20,if_neg ht26,if_neg ht31,if_neg ht43,if_neg ht48,if_neg ht53,if_pos ht58]; rfl) | (rw [if_neg ht8,if_neg ht14,if_neg ht20,if_neg ht26,if_neg ht31,if_neg ht43,if_neg ht48,if_neg ht53,if_neg ht58]; rfl)),rfl⟩
      ·refine T.skip ?_
       refine TQ.then_n ?_
       refine T.seq ?_
       refine T.region ?_
       refine TL.move hF rfl rfl ?_
       refine TL.move hF rfl rfl ?_
       refine TL.move hF rfl rfl ?_
       refine TL.move hF rfl rfl ?_
       refine TL.callV hF (quotient_fn ha0 hb0) rfl rfl ?_
       refine TL.mul hF rfl rfl (by omega) (by omega) rfl ?_
       refine TL.sub hF rfl rfl (by omega) (by omega) rfl ?_
       refine TL.callV hF (Wrap5_fn) rfl rfl ?_
       refine TL.assign hF rfl rfl ?_
       refine TL.nil ?_
       refine TQ.then_n ?_
       refine T.ret ?_
       refine TQ.block_r ?_
       refine TQ.then_r ?_
       refine TQ.rets [6] _ rfl rfl rfl ?_
       exact ⟨congrArg (Value.int .i64) (by unfold binS; first | (simp [*,wrap_sub_mul]; done) | (rw [if_neg ht8,if_neg ht14,if_neg ht20,if_neg ht26,if_neg ht31,if_neg ht43,if_neg ht48,if_pos ht53]; rfl) | (rw [if_neg ht8,if_neg ht14,if_neg ht20,if_neg ht26,if_neg ht31,if_neg ht43,if_neg ht48,if_neg ht53,if_pos ht58]; rfl) | (rw [if_neg ht8,if_neg ht14,if_neg ht20,if_neg ht26,if_neg ht31,if_neg ht43,if_neg ht48,if_neg ht53,if_neg ht58]; rfl)),rfl⟩
     ·refine T.seq ?_
      refine T.region ?_
      refine TL.bin hF rfl rfl rfl rfl ?_
      refine TL.assign hF rfl rfl ?_
      refine TL.nil ?_
      refine TQ.then_n ?_
      refine T.cond_d rfl (fun ht43=>?_) (fun ht43=>?_)
      ·refine T.seq ?_
       refine T.region ?_
       refine TL.move hF rfl rfl ?_
       refine TL.move hF rfl rfl ?_
       refine TL.min2 hF rfl rfl rfl ?_
       refine TL.assign hF rfl rfl ?_
       refine TL.nil ?_
       refine TQ.then_n ?_
       refine T.ret ?_
       refine TQ.block_r ?_
       refine TQ.then_r ?_
       refine TQ.rets [6] _ rfl rfl rfl ?_
       exact ⟨congrArg (Value.int .i64) (by unfold binS; first | (simp [*]; done) | (rw [if_neg ht8,if_neg ht14,if_neg ht20,if_neg ht26,if_neg ht31,if_neg ht43,if_neg ht48,if_pos ht53]; rfl) | (rw [if_neg ht8,if_neg ht14,if_neg ht20,if_neg ht26,if_neg ht31,if_neg ht43,if_neg ht48,if_neg ht53,if_pos ht58]; rfl) | (rw [if_neg ht8,if_neg ht14,if_neg ht20,if_neg ht26,if_neg ht31,if_neg ht43,if_neg ht48,if_neg ht53,if_neg ht58]; rfl)),rfl⟩
      ·refine T.seq ?_
       refine T.region ?_
       refine TL.bin hF rfl rfl rfl rfl ?_
       refine TL.assign hF rfl rfl ?_
       refine TL.nil ?_
       refine TQ.then_n ?_
       refine T.cond_d rfl (fun ht48=>?_) (fun ht48=>?_)
       ·refine T.seq ?_
        refine T.region ?_
        refine TL.move hF rfl rfl ?_
        refine TL.move hF rfl rfl ?_
        refine TL.max2 hF rfl rfl rfl ?_
        refine TL.assign hF rfl rfl ?_
        refine TL.nil ?_
        refine TQ.then_n ?_
        refine T.ret ?_
        refine TQ.block_r ?_
        refine TQ.then_r ?_
        refine TQ.rets [6] _ rfl rfl rfl ?_
        exact ⟨congrArg (Value.int .i64) (by unfold binS; first | (simp [*]; done) | (rw [if_neg ht8,if_neg ht14,if_neg ht20,if_neg ht26,if_neg ht31,if_neg ht43,if_neg ht48,if_pos ht53]; rfl) | (rw [if_neg ht8,if_neg ht14,if_neg ht20,if_neg ht26,if_neg ht31,if_neg ht43,if_neg ht48,if_neg ht53,if_pos ht58]; rfl) | (rw [if_neg ht8,if_neg ht14,if_neg ht20,if_neg ht26,if_neg ht31,if_neg ht43,if_neg ht48,if_neg ht53,if_neg ht58]; rfl)),rfl⟩
       ·refine T.seq ?_
        refine T.region ?_
        refine TL.bin hF rfl rfl rfl rfl ?_
        refine TL.assign hF rfl rfl ?_
        refine TL.nil ?_
        refine TQ.then_n ?_
        refine T.cond_d rfl (fun ht53=>?_) (fun ht53=>?_)
        ·refine T.seq ?_
         refine T.region ?_
         refine TL.move hF rfl rfl ?_
         refine TL.move hF rfl rfl ?_
         refine TL.andZ hF rfl rfl rfl ?_
         refine TL.assign hF rfl rfl ?_
         refine TL.nil ?_
         refine TQ.then_n ?_
         refine T.ret ?_
         refine TQ.block_r ?_
         refine TQ.then_r ?_
         refine TQ.rets [6] _ rfl rfl rfl ?_
         exact ⟨congrArg (Value.int .i64) (by unfold binS; first | (simp [*]; done) | (rw [if_neg ht8,if_neg ht14,if_neg ht20,if_neg ht26,if_neg ht31,if_neg ht43,if_neg ht48,if_pos ht53]; rfl) | (rw [if_neg ht8,if_neg ht14,if_neg ht20,if_neg ht26,if_neg ht31,if_neg ht43,if_neg ht48,if_neg ht53,if_pos ht58]; rfl) | (rw [if_neg ht8,if_neg ht14,if_neg ht20,if_neg ht26,if_neg ht31,if_neg ht43,if_neg ht48,if_neg ht53,if_neg ht58]; rfl)),rfl⟩
        ·refine T.seq ?_
         refine T.region ?_
         refine TL.bin hF rfl rfl rfl rfl ?_
         refine TL.assign hF rfl rfl ?_
         refine TL.nil ?_
         refine TQ.then_n ?_
         refine T.cond_d rfl (fun ht58=>?_) (fun ht58=>?_)
         ·refine T.seq ?_
          refine T.region ?_
          refine TL.move hF rfl rfl ?_
          refine TL.move hF rfl rfl ?_
          refine TL.orZ hF rfl rfl rfl ?_
          refine TL.assign hF rfl rfl ?_
          refine TL.nil ?_
          refine TQ.then_n ?_
          refine T.ret ?_
          refine TQ.block_r ?_
          refine TQ.then_r ?_
          refine TQ.rets [6] _ rfl rfl rfl ?_
          exact ⟨congrArg (Value.int .i64) (by unfold binS; first | (simp [*]; done) | (rw [if_neg ht8,if_neg ht14,if_neg ht20,if_neg ht26,if_neg ht31,if_neg ht43,if_neg ht48,if_pos ht53]; rfl) | (rw [if_neg ht8,if_neg ht14,if_neg ht20,if_neg ht26,if_neg ht31,if_neg ht43,if_neg ht48,if_neg ht53,if_pos ht58]; rfl) | (rw [if_neg ht8,if_neg ht14,if_neg ht20,if_neg ht26,if_neg ht31,if_neg ht43,if_neg ht48,if_neg ht53,if_neg ht58]; rfl)),rfl⟩
         ·refine T.skip ?_
          refine TQ.block_n ?_
          refine TQ.then_n ?_
          refine T.seq ?_
          refine T.region ?_
          refine TL.move hF rfl rfl ?_
          refine TL.move hF rfl rfl ?_
          refine TL.xorZ hF rfl rfl rfl ?_
          refine TL.assign hF rfl rfl ?_
          refine TL.nil ?_
          refine TQ.then_n ?_
          refine T.ret ?_
          refine TQ.rets [6] _ rfl rfl rfl ?_
          exact ⟨congrArg (Value.int .i64) (by unfold binS; first | (simp [*]; done) | (rw [if_neg ht8,if_neg ht14,if_neg ht20,if_neg ht26,if_neg ht31,if_neg ht43,if_neg ht48,if_pos ht53]; rfl) | (rw [if_neg ht8,if_neg ht14,if_neg ht20,if_neg ht26,if_neg ht31,if_neg ht43,if_neg ht48,if_neg ht53,if_pos ht58]; rfl) | (rw [if_neg ht8,if_neg ht14,if_neg ht20,if_neg ht26,if_neg ht31,if_neg ht43,if_neg ht48,if_neg ht53,if_neg ht58]; rfl)),rfl⟩
set_option maxHeartbeats 2000000 in
theorem ahead_fn {a b : Key} :
  Rt Tryz.prog 73 [kV a,kV b].toArray S w0 η (fun v η'=>v = .bool (kLt a b)∧η'=η):=by
 have hF:=open_wide
 refine Rt.of (fn:=Tryz.f73) Tryz.func73 rfl rfl ?_
 refine T.seq ?_
 refine T.region ?_
 refine TL.box hF rfl rfl (fun b2=>?_)
 refine TL.box hF rfl rfl (fun b3=>?_)
 refine TL.assign hF rfl rfl ?_
 refine TL.nil ?_
 refine TQ.then_n ?_
 refine T.seq ?_
 refine T.region ?_
 refine TL.fieldAddr hF rfl rfl ?_
 refine TL.load hF rfl (own_mem (b:=b2) (cs:=(kC a).toArray) (e:=25) (fz:=(0,0)) (List.mem_cons.2 (.inr (List.mem_cons.2 (.inl rfl)))) rfl) rfl ?_
 refine TL.fieldAddr hF rfl rfl ?_
 refine TL.load hF rfl (own_mem (b:=b3) (cs:=(kC b).toArray) (e:=25) (fz:=(0,0)) (List.mem_cons.2 (.inl rfl)) rfl) rfl ?_
 refine TL.bin hF rfl rfl rfl rfl ?_
 refine TL.move hF rfl rfl ?_
 refine TL.gd (t:=10) rfl (fun g1_10=>?_) (fun g1_10=>?_)
 ·refine TL.off hF rfl rfl rfl (decide_eq_true g1_10) rfl ?_
  refine TL.off hF rfl rfl rfl (decide_eq_true g1_10) rfl ?_
  refine TL.off hF rfl rfl rfl (decide_eq_true g1_10) rfl ?_
  refine TL.off hF rfl rfl rfl (decide_eq_true g1_10) rfl ?_
  refine TL.off hF rfl rfl rfl (decide_eq_true g1_10) rfl ?_
  refine TL.off hF rfl rfl rfl (decide_eq_true g1_10) rfl ?_
  refine TL.offU hF rfl rfl rfl rfl ?_
  refine TL.offU hF rfl rfl rfl rfl ?_
  refine TL.offU hF rfl rfl rfl rfl ?_
  refine TL.offU hF rfl rfl rfl rfl ?_
  refine TL.offU hF rfl rfl rfl rfl ?_
  refine TL.off hF rfl rfl rfl (decide_eq_true g1_10) rfl ?_
  refine TL.pickT hF rfl (decide_eq_true g1_10) rfl rfl ?_
  refine TL.assign hF rfl rfl ?_
  refine TL.nil ?_
  refine TQ.then_n ?_
  refine T.ret ?_
  refine TQ.pop ?_
  refine TQ.pop ?_
  refine TQ.rets [4] _ rfl rfl rfl ?_
  exact ⟨congrArg Value.bool (by unfold kLt; simp [*]),rfl⟩
 ·refine TL.on rfl rfl rfl (decide_eq_false g1_10) ?_
  refine TL.fieldAddr hF rfl rfl ?_
  refine TL.on rfl rfl rfl (decide_eq_false g1_10) ?_
  refine TL.load hF rfl (own_mem (b:=b2) (cs:=(kC a).toArray) (e:=25) (fz:=(0,0)) (List.mem_cons.2 (.inr (List.mem_cons.2 (.inl rfl)))) rfl) rfl ?_
  refine TL.on rfl rfl rfl (decide_eq_false g1_10) ?_
  refine TL.fieldAddr hF rfl rfl ?_
  refine TL.on rfl rfl rfl (decide_eq_false g1_10) ?_
  refine TL.load hF rfl (own_mem (b:=b3) (cs:=(kC b).toArray) (e:=25) (fz:=(0,0)) (List.mem_cons.2 (.inl rfl)) rfl) rfl ?_
  refine TL.on rfl rfl rfl (decide_eq_false g1_10) ?_
  refine TL.bin hF rfl rfl rfl rfl ?_
  refine TL.on rfl rfl rfl (decide_eq_false g1_10) ?_
  refine TL.move hF rfl rfl ?_
  refine TL.gd (t:=16) rfl (fun g1_16=>?_) (fun g1_16=>?_)
  ·refine TL.on rfl rfl rfl (decide_eq_true g1_16) ?_
   refine TL.fieldAddr hF rfl rfl ?_
   refine TL.on rfl rfl rfl (decide_eq_true g1_16) ?_
   refine TL.load hF rfl (own_mem (b:=b2) (cs:=(kC a).toArray) (e:=25) (fz:=(0,0)) (List.mem_cons.2 (.inr (List.mem_cons.2 (.inl rfl)))) rfl) rfl ?_
   refine TL.on rfl rfl rfl (decide_eq_true g1_16) ?_
   refine TL.fieldAddr hF rfl rfl ?_
   refine TL.on rfl rfl rfl (decide_eq_true g1_16) ?_
   refine TL.load hF rfl (own_mem (b:=b3) (cs:=(kC b).toArray) (e:=25) (fz:=(0,0)) (List.mem_cons.2 (.inl rfl)) rfl) rfl ?_
   refine TL.on rfl rfl rfl (decide_eq_true g1_16) ?_
   refine TL.bin hF rfl rfl rfl rfl ?_
   refine TL.on rfl rfl rfl (decide_eq_false g1_10) ?_
   refine TL.pickT hF rfl (decide_eq_true g1_16) rfl rfl ?_
   refine TL.pickF hF rfl (decide_eq_false g1_10) rfl rfl ?_
   refine TL.assign hF rfl rfl ?_
   refine TL.nil ?_
   refine TQ.then_n ?_
   refine T.ret ?_
   refine TQ.pop ?_
   refine TQ.pop ?_
   refine TQ.rets [4] _ rfl rfl rfl ?_
   exact ⟨congrArg Value.bool (by unfold kLt; simp [*]),rfl⟩
  ·refine TL.off hF rfl rfl rfl (decide_eq_false g1_16) rfl ?_
   refine TL.off hF rfl rfl rfl (decide_eq_false g1_16) rfl ?_
   refine TL.off hF rfl rfl rfl (decide_eq_false g1_16) rfl ?_
   refine TL.off hF rfl rfl rfl (decide_eq_false g1_16) rfl ?_
   refine TL.off hF rfl rfl rfl (decide_eq_false g1_16) rfl ?_
   refine TL.on rfl rfl rfl (decide_eq_false g1_10) ?_
   refine TL.pickF hF rfl (decide_eq_false g1_16) rfl rfl ?_
   refine TL.pickF hF rfl (decide_eq_false g1_10) rfl rfl ?_
   refine TL.assign hF rfl rfl ?_
   refine TL.nil ?_
   refine TQ.then_n ?_
   refine T.ret ?_
   refine TQ.pop ?_
   refine TQ.pop ?_
   refine TQ.rets [4] _ rfl rfl rfl ?_
   exact ⟨congrArg Value.bool (by unfold kLt; simp [*]),rfl⟩
end Go.Proofs.YtdiacobmhkmljaaGreatDoor
/- The reference: calls found; numbers in order. -/
namespace Go.Proofs.YtdiacobmhkmljaaGreatDoor
open Go.Sl
variable {S:Nat→Prop} {w0:World} {η:Heap}
theorem findN_app1 {l:List Nd} {x:Nd} {k:Key} (h:findN l k=none):findN (l++[x]) k=if x.key=k then some x else none:=by
 unfold findN at h ⊢
 rw [List.find?_append,h,List.find?_cons,List.find?_nil]
 by_cases e:x.key=k <;> simp [e]
theorem findN_first {l:List Nd} {i:Nat} {k:Key} (hi:i<l.length) (h:findN (l.take i) k=none) (e:l[i].key=k):findN l k=some l[i]:=by
 have h1:findN (l.take (i+1)) k=some l[i]:=by
  rw [List.take_succ_eq_append_getElem hi,findN_app1 h,if_pos e]
 unfold findN at h1 ⊢
 have h2:l.find? (fun x=>decide (x.key=k))=(l.take (i+1)++l.drop (i+1)).find? (fun x=>decide (x.key=k)):=by rw [List.take_append_drop]
 rw [h2,List.find?_append,h1]; rfl
def zNH:NH:=⟨⟨(0,0),0,[]⟩,none,0⟩
/-- What is found in a trace. -/
def NdR (l:List NH) (k:Key) (x:NH) (b:Bool):Prop:=(b=true→x∈l∧findN (nds l) k=some x.nd)∧(b=false→findN (nds l) k=none∧x=zNH)
theorem NdR.has {l:List NH} {k:Key} {x:NH} {b:Bool} (h:NdR l k x b):b=hasN (nds l) k:=by
 unfold hasN
 cases b with
 | true=>rw [(h.1 rfl).2]; rfl
 | false=>rw [(h.2 rfl).1]; rfl
set_option maxHeartbeats 2000000 in
theorem findR_fn {a : Option Addr} {l : List NH} {c : Nat} {k : Key} (hx : NL S w0 η a l) (hl : l.length < 9223372036854775808) :
  Rt Tryz.prog 64 [.slice a l.length c,kV k].toArray S w0 η (fun v η'=>∃ x b,v = .tuple #[.agg (nhC x).toArray,.bool b]∧NdR l k x b∧η'=η):=by
 have hF:=open_wide
 refine Rt.of (fn:=Tryz.f64) Tryz.func64 rfl rfl ?_
 refine T.seq ?_
 refine T.region ?_
 refine TL.box hF rfl rfl (fun b3=>?_)
 refine TL.alloc hF rfl (fun b4=>?_)
 refine TL.assign hF rfl rfl ?_
 refine TL.nil ?_
 refine TQ.then_n ?_
 refine T.seq ?_
 refine T.seq ?_
 refine T.region ?_
 refine TL.assign hF rfl rfl ?_
 refine TL.nil ?_
 refine TQ.then_n ?_
 refine T.block ?_
 refine T.loop (ι:=Nat) (fun i=>i≤l.length∧findN ((nds l).take i) k=none) (fun i=>[(0,.slice a l.length c),(3,ptr b3),(4,ptr b4),(5,.bool false),(6,.int .i64 (i:Int))]) (fun _=>[(b4,Obj.cells [.int .i64 0,.int .i64 0,.int .i64 0,.slice none 0 0].toArray 54 (0,0))]::[(b3,Obj.cells (kC k).toArray 25 (0,0))]::η) (fun i=>l.length - i) 0 ⟨Nat.zero_le _,rfl⟩ ⟨rfl,rfl,rfl,rfl,rfl,trivial⟩ rfl ?_
 rintro i ⟨hi,hno⟩
 refine T.seq ?_
 refine T.seq ?_
 refine T.region ?_
 refine TL.move hF rfl rfl ?_
 refine TL.move hF rfl rfl ?_
 refine TL.len hF rfl rfl ?_
 refine TL.bin hF rfl rfl rfl rfl ?_
 refine TL.nil ?_
 refine TQ.then_n ?_
 first | refine T.cond_d rfl (fun ht10=>?_) (fun ht10=>?_) | refine T.cond _ rfl (fun ht10=>?_) (fun ht10=>?_)
 ·refine T.skip ?_
  refine TQ.then_n ?_
  refine T.seq ?_
  refine T.block ?_
  refine T.seq ?_
  have hil:i<l.length:=by omega
  have hin:i<(nds l).length:=by rw [nds_len]; exact hil
  refine T.draw ?_
  refine DR.stepV [_] rfl [(0,_,none)] rfl rfl ⟨⟨rfl,by kernel_rfl⟩,trivial⟩ (fun ext=>TL.move hF rfl rfl TL.fin) ?_
  refine DR.stepV [_,_] rfl [(6,_,none)] rfl rfl ⟨⟨rfl,by kernel_rfl⟩,trivial⟩ (fun ext=>TL.move hF rfl rfl TL.fin) ?_
  refine DR.stepV [_,_,_] rfl [(13,_,some 0),(14,_,some 1)] rfl rfl ⟨⟨rfl,rfl,rfl⟩,⟨rfl,rfl,rfl⟩,trivial⟩ (fun ext=>TL.indexAddr hF rfl rfl (hx.ad hil) (by omega) (by omega) rfl TL.fin) ?_
  refine DR.stepV [_,_,_,_] rfl [(15,_,some 2)] rfl rfl ⟨⟨rfl,rfl,rfl⟩,trivial⟩ (fun ext=>TL.fieldAddr hF rfl rfl TL.fin) ?_
  refine DR.stepV [_,_,_,_,_] rfl [(16,_,some 3)] rfl rfl ⟨⟨rfl,rfl,rfl⟩,trivial⟩ (fun ext=>TL.loadA hF (kC l[i].nd.key) rfl rfl ((hx.up (fun s hs=>by simp [hs])).keyAt hil) rfl TL.fin) ?_
  refine DR.stepV [_,_,_,_,_,_] rfl [(3,_,none)] rfl rfl ⟨⟨rfl,by kernel_rfl⟩,trivial⟩ (fun ext=>TL.loadA hF (kC k) rfl rfl (own_list (i:=1) (cs:=kC k) rfl) rfl TL.fin) ?_
  refine DR.done [(18,_),(17,_),(16,_),(15,_),(14,_),(13,_)] [_] mixed (by kernel_rfl) (by kernel_rfl) (by kernel_rfl) rfl rfl ?_
  refine TL.eqlA hF rfl rfl (by kernel_rfl) (eqK l[i].nd.key k) rfl ?_
  refine TL.nil ?_
  refine TQ.then_n ?_
  first | refine T.cond_d rfl (fun ht19=>?_) (fun ht19=>?_) | refine T.cond _ rfl (fun ht19=>?_) (fun ht19=>?_)
  ·refine T.seq ?_
   refine T.region ?_
   refine TL.move hF rfl rfl ?_
   refine TL.move hF rfl rfl ?_
   refine TL.indexAddr hF rfl rfl (hx.ad hil) (by omega) (by omega) rfl ?_
   refine TL.loadA hF (nhC l[i]) rfl rfl ((hx.up (fun s hs=>by simp [hs])).atA (i:=i) hil) rfl ?_
   refine TL.storeAs hF (nhC l[i]) (nhC l[i]) 0 (cs:=[.int .i64 0,.int .i64 0,.int .i64 0,.slice none 0 0]) rfl rfl rfl rfl (nhC1 _) (Nat.le_refl 4) rfl ?_
   refine TL.assign hF rfl rfl ?_
   refine TL.nil ?_
   refine TQ.then_n ?_
   refine T.ret ?_
   refine TQ.block_r ?_
   refine TQ.then_r ?_
   refine TQ.then_r ?_
   refine TQ.block_r ?_
   refine TQ.then_r ?_
   refine TQ.retCT (nhC l[i]) η rfl rfl rfl rfl (own_list (i:=0) (cs:=nhC l[i]) rfl) (List.Sublist.cons _ (List.sublist_cons_self _ _)) ?_
   refine ⟨l[i],true,rfl,⟨fun _=>⟨List.getElem_mem hil,?_⟩,fun h=>(by cases h)⟩,rfl⟩
   have:=findN_first hin hno (by rw [nds_get hil]; exact ht19)
   rw [nds_get hil] at this; exact this
  ·refine T.skip ?_
   refine TQ.block_n ?_
   refine TQ.then_n ?_
   refine T.region ?_
   refine TL.move hF rfl rfl ?_
   refine TL.add hF rfl rfl (by omega) (by omega) rfl ?_
   refine TL.assign hF rfl rfl ?_
   refine TL.nil ?_
   refine TQ.round (i+1) ⟨by omega,?_⟩ (by omega) ⟨rfl,rfl,rfl,rfl,rfl,trivial⟩ rfl
   rw [List.take_succ_eq_append_getElem hin,findN_app1 hno,if_neg]
   rw [nds_get hil]; exact ht19
 ·refine T.exit ?_
  refine TQ.then_x ?_
  refine TQ.then_x ?_
  refine TQ.block_x ?_
  refine TQ.then_n ?_
  refine T.seq ?_
  refine T.region ?_
  refine TL.build hF rfl (r:=.agg #[.int .i64 0,.int .i64 0,.int .i64 0,.slice none 0 0]) (fun w=>by kernel_rfl) rfl ?_
  refine TL.storeAs hF [.int .i64 0,.int .i64 0,.int .i64 0,.slice none 0 0] [.int .i64 0,.int .i64 0,.int .i64 0,.slice none 0 0] 0 (cs:=[.int .i64 0,.int .i64 0,.int .i64 0,.slice none 0 0]) rfl rfl rfl rfl (by simp [Value.oneCell']) (Nat.le_refl 4) rfl ?_
  refine TL.assign hF rfl rfl ?_
  refine TL.nil ?_
  refine TQ.then_n ?_
  refine T.ret ?_
  refine TQ.retCT [.int .i64 0,.int .i64 0,.int .i64 0,.slice none 0 0] η rfl rfl rfl rfl (own_list (i:=0) (cs:=[.int .i64 0,.int .i64 0,.int .i64 0,.slice none 0 0]) rfl) (List.Sublist.cons _ (List.sublist_cons_self _ _)) ?_
  refine ⟨zNH,false,rfl,⟨fun h=>(by cases h),fun _=>⟨?_,rfl⟩⟩,rfl⟩
  rw [List.take_of_length_le (by rw [nds_len]; omega)] at hno; exact hno
/-- A scene, as memory holds it. -/
abbrev scC (fa:Option Addr) (fn fc:Nat) (ca:Option Addr) (cn cc:Nat) (na:Option Addr) (nn nc:Nat):List Value:=[.slice fa fn fc,.slice ca cn cc,.slice na nn nc]
set_option maxHeartbeats 2000000 in
theorem SceneFind_fn {fa ca na : Option Addr} {fn fc cn cc nc : Nat} {l : List NH} {k : Key} (hx : NL S w0 η na l) (hl : l.length < 9223372036854775808) :
  Rt Tryz.prog 71 [.agg (scC fa fn fc ca cn cc na l.length nc).toArray,kV k].toArray S w0 η (fun v η'=>∃ z:Int,v = .int .i64 z∧((∃ i:Nat,∃ h:i<l.length,z=i∧findN (nds l) k=some l[i].nd)∨(z = -1∧findN (nds l) k=none))∧η'=η):=by
 have hF:=open_wide
 refine Rt.of (fn:=Tryz.f71) Tryz.func71 rfl rfl ?_
 refine T.seq ?_
 refine T.region ?_
 refine TL.box hF rfl rfl (fun b2=>?_)
 refine TL.box hF rfl rfl (fun b3=>?_)
 refine TL.assign hF rfl rfl ?_
 refine TL.nil ?_
 refine TQ.then_n ?_
 refine T.seq ?_
 refine T.seq ?_
 refine T.region ?_
 refine TL.assign hF rfl rfl ?_
 refine TL.nil ?_
 refine TQ.then_n ?_
 refine T.block ?_
 refine T.loop (ι:=Nat) (fun i=>i≤l.length∧findN ((nds l).take i) k=none) (fun i=>[(2,ptr b2),(3,ptr b3),(4,.int .i64 0),(5,.int .i64 (i:Int))]) (fun _=>[(b3,Obj.cells (kC k).toArray 25 (0,0))]::[(b2,Obj.cells (scC fa fn fc ca cn cc na l.length nc).toArray 116 (0,0))]::η) (fun i=>l.length - i) 0 ⟨Nat.zero_le _,rfl⟩ ⟨rfl,rfl,rfl,rfl,trivial⟩ rfl ?_
 rintro i ⟨hi,hno⟩
 refine T.seq ?_
 refine T.seq ?_
 refine T.region ?_
 refine TL.move hF rfl rfl ?_
 refine TL.fieldAddr hF rfl rfl ?_
 refine TL.load hF rfl (own_mem (b:=b2) (cs:=(scC fa fn fc ca cn cc na l.length nc).toArray) (e:=116) (fz:=(0,0)) (by simp) rfl) rfl ?_
 refine TL.len hF rfl rfl ?_
 refine TL.bin hF rfl rfl rfl rfl ?_
 refine TL.nil ?_
 refine TQ.then_n ?_
 first | refine T.cond_d rfl (fun ht10=>?_) (fun ht10=>?_) | refine T.cond _ rfl (fun ht10=>?_) (fun ht10=>?_)
 ·refine T.skip ?_
  refine TQ.then_n ?_
  refine T.seq ?_
  refine T.block ?_
  refine T.seq ?_
  have hil:i<l.length:=by omega
  have hin:i<(nds l).length:=by rw [nds_len]; exact hil
  refine T.draw ?_
  refine DR.stepV [_] rfl [(2,_,none)] rfl rfl ⟨⟨rfl,by kernel_rfl⟩,trivial⟩ (fun ext=>TL.fieldAddr hF rfl rfl TL.fin) ?_
  refine DR.stepV [_,_] rfl [(13,_,some 0)] rfl rfl ⟨⟨rfl,rfl,rfl⟩,trivial⟩ (fun ext=>TL.load hF rfl (own_mem (b:=b2) (cs:=(scC fa fn fc ca cn cc na l.length nc).toArray) (e:=116) (fz:=(0,0)) (by simp) rfl) rfl TL.fin) ?_
  refine DR.stepV [_,_,_] rfl [(5,_,none)] rfl rfl ⟨⟨rfl,by kernel_rfl⟩,trivial⟩ (fun ext=>TL.move hF rfl rfl TL.fin) ?_
  refine DR.stepV [_,_,_,_] rfl [(14,_,some 1),(15,_,some 2)] rfl rfl ⟨⟨rfl,rfl,rfl⟩,⟨rfl,rfl,rfl⟩,trivial⟩ (fun ext=>TL.indexAddr hF rfl rfl (hx.ad hil) (by omega) (by omega) rfl TL.fin) ?_
  refine DR.stepV [_,_,_,_,_] rfl [(16,_,some 3)] rfl rfl ⟨⟨rfl,rfl,rfl⟩,trivial⟩ (fun ext=>TL.fieldAddr hF rfl rfl TL.fin) ?_
  refine DR.stepV [_,_,_,_,_,_] rfl [(17,_,some 4)] rfl rfl ⟨⟨rfl,rfl,rfl⟩,trivial⟩ (fun ext=>TL.loadA hF (kC l[i].nd.key) rfl rfl ((hx.up (fun s hs=>by simp [hs])).keyAt hil) rfl TL.fin) ?_
  refine DR.stepV [_,_,_,_,_,_,_] rfl [(3,_,none)] rfl rfl ⟨⟨rfl,by kernel_rfl⟩,trivial⟩ (fun ext=>TL.loadA hF (kC k) rfl rfl (own_list (i:=0) (cs:=kC k) rfl) rfl TL.fin) ?_
  refine DR.done [(19,_),(18,_),(17,_),(16,_),(15,_),(14,_),(13,_)] [_] mixed (by kernel_rfl) (by kernel_rfl) (by kernel_rfl) rfl rfl ?_
  refine TL.eqlA hF rfl rfl (by kernel_rfl) (eqK l[i].nd.key k) rfl ?_
  refine TL.nil ?_
  refine TQ.then_n ?_
  first | refine T.cond_d rfl (fun ht20=>?_) (fun ht20=>?_) | refine T.cond _ rfl (fun ht20=>?_) (fun ht20=>?_)
  ·refine T.seq ?_
   refine T.region ?_
   refine TL.move hF rfl rfl ?_
   refine TL.assign hF rfl rfl ?_
   refine TL.nil ?_
   refine TQ.then_n ?_
   refine T.ret ?_
   refine TQ.block_r ?_
   refine TQ.then_r ?_
   refine TQ.then_r ?_
   refine TQ.block_r ?_
   refine TQ.then_r ?_
   refine TQ.pop ?_
   refine TQ.pop ?_
   refine TQ.rets [4] _ rfl rfl rfl ?_
   refine ⟨(i:Int),rfl,.inl ⟨i,hil,rfl,?_⟩,rfl⟩
   have:=findN_first hin hno (by rw [nds_get hil]; exact ht20)
   rw [nds_get hil] at this; exact this
  ·refine T.skip ?_
   refine TQ.block_n ?_
   refine TQ.then_n ?_
   refine T.region ?_
   refine TL.move hF rfl rfl ?_
   refine TL.add hF rfl rfl (by omega) (by omega) rfl ?_
   refine TL.assign hF rfl rfl ?_
   refine TL.nil ?_
   refine TQ.round (i+1) ⟨by omega,?_⟩ (by omega) ⟨rfl,rfl,rfl,rfl,trivial⟩ rfl
   rw [List.take_succ_eq_append_getElem hin,findN_app1 hno,if_neg]
   rw [nds_get hil]; exact ht20
 ·refine T.exit ?_
  refine TQ.then_x ?_
  refine TQ.then_x ?_
  refine TQ.block_x ?_
  refine TQ.then_n ?_
  refine T.seq ?_
  refine T.region ?_
  refine TL.assign hF rfl rfl ?_
  refine TL.nil ?_
  refine TQ.then_n ?_
  refine T.ret ?_
  refine TQ.pop ?_
  refine TQ.pop ?_
  refine TQ.rets [4] _ rfl rfl rfl ?_
  refine ⟨-1,rfl,.inr ⟨rfl,?_⟩,rfl⟩
  rw [List.take_of_length_le (by rw [nds_len]; omega)] at hno; exact hno
structure RS where
 i:Nat
 L:List Int
 done:Bool
 a:Option Addr
 c:Nat
 g:Seg
/-- What stands in order so far. -/
def RisI (xs:List Int) (n:Int) (i:Nat) (L:List Int) (done:Bool):Prop:=(done=true→L=risI (xs.take i) n∧∃ x∈xs.take i,n≤x)∧(done=false→L=xs.take i∧∀ x∈xs.take i,x<n)
theorem risI_snoc {l:List Int} {n x:Int} (h:UpI (l++[x])) (hd:(∃ y∈l,n≤y)):risI (l++[x]) n=risI l n++[x]∧x≠n:=by
 have hx:n<x:=by
  obtain ⟨y,hy,hn⟩:=hd
  have:=(List.pairwise_append.1 h).2.2 y hy x (by simp)
  omega
 refine ⟨?_,by omega⟩
 have hl:=(List.pairwise_append.1 h).1
 refine upI_ext (risI_up h) ?_ fun z=>?_
 ·refine List.pairwise_append.2 ⟨risI_up hl,by simp,fun a ha b hb=>?_⟩
  rw [List.mem_singleton.1 hb]
  rcases mem_risI.1 ha with rfl | ha
  ·exact hx
  ·exact (List.pairwise_append.1 h).2.2 a ha x (by simp)
 ·simp only [mem_risI,List.mem_append,or_assoc]
theorem risI_at {l:List Int} {n x:Int} (h:UpI (l++[x])) (hd:∀ y∈l,y<n) (hx:n≤x):risI (l++[x]) n=if x≠n then l++[n]++[x] else l++[n]:=by
 have hl:=(List.pairwise_append.1 h).1
 refine upI_ext (risI_up h) ?_ fun z=>?_
 ·have h1:UpI (l++[n]):=List.pairwise_append.2 ⟨hl,by simp,fun a ha b hb=>by rw [List.mem_singleton.1 hb]; exact hd a ha⟩
  split
  ·refine List.pairwise_append.2 ⟨h1,by simp,fun a ha b hb=>?_⟩
   rw [List.mem_singleton.1 hb]
   rcases List.mem_append.1 ha with ha | ha
   ·exact (List.pairwise_append.1 h).2.2 a ha x (by simp)
   ·rw [List.mem_singleton.1 ha]; omega
  ·exact h1
 ·rw [mem_risI]
  split
  ·simp only [List.mem_append,List.mem_singleton]
   constructor
   ·rintro (h | h | h)
    ·exact .inl (.inr h)
    ·exact .inl (.inl h)
    ·exact .inr h
   ·rintro ((h | h) | h)
    ·exact .inr (.inl h)
    ·exact .inl h
    ·exact .inr (.inr h)
  ·rename_i hx2
   have:x=n:=Classical.not_not.1 hx2
   subst this
   simp only [List.mem_append,List.mem_singleton]
   constructor
   ·rintro (h | h | h)
    ·exact .inr h
    ·exact .inl h
    ·exact .inr h
   ·rintro (h | h)
    ·exact .inr (.inl h)
    ·exact .inl h
theorem risI_end {l:List Int} {n:Int} (h:UpI l) (hd:∀ y∈l,y<n):risI l n=l++[n]:=by
 refine upI_ext (risI_up h) (List.pairwise_append.2 ⟨h,by simp,fun a ha b hb=>by rw [List.mem_singleton.1 hb]; exact hd a ha⟩) fun z=>?_
 rw [mem_risI,List.mem_append,List.mem_singleton,or_comm]
theorem ris_up {xs:List Int} (hu:UpI xs) {i:Nat} (hi:i<xs.length):UpI (xs.take i++[xs[i]]):=by
 rw [← List.take_succ_eq_append_getElem hi]; exact List.Pairwise.sublist (List.take_sublist _ _) hu
theorem ris1 {xs L:List Int} {n:Int} {i:Nat} (hu:UpI xs) (hi:i<xs.length) (h:RisI xs n i L false) (hx:n≤xs[i]) (hn:xs[i]≠n):RisI xs n (i+1) (L++[n]++[xs[i]]) true:=by
 obtain ⟨rfl,hd⟩:=h.2 rfl
 refine ⟨fun _=>?_,fun h=>by cases h⟩
 have:=risI_at (ris_up hu hi) hd hx
 rw [if_pos hn] at this
 rw [List.take_succ_eq_append_getElem hi,this]
 exact ⟨rfl,xs[i],List.mem_append.2 (.inr (List.mem_singleton.2 rfl)),hx⟩
theorem ris2 {xs L:List Int} {n:Int} {i:Nat} (hu:UpI xs) (hi:i<xs.length) (h:RisI xs n i L false) (hx:n≤xs[i]) (hn:¬ xs[i]≠n):RisI xs n (i+1) (L++[n]) true:=by
 obtain ⟨rfl,hd⟩:=h.2 rfl
 refine ⟨fun _=>?_,fun h=>by cases h⟩
 have:=risI_at (ris_up hu hi) hd hx
 rw [if_neg hn] at this
 rw [List.take_succ_eq_append_getElem hi,this]
 exact ⟨rfl,xs[i],List.mem_append.2 (.inr (List.mem_singleton.2 rfl)),hx⟩
theorem ris3 {xs L:List Int} {n:Int} {i:Nat} (hi:i<xs.length) (h:RisI xs n i L false) (hx:¬ n≤xs[i]):RisI xs n (i+1) (L++[xs[i]]) false:=by
 obtain ⟨rfl,hd⟩:=h.2 rfl
 refine ⟨fun h=>(by cases h),fun _=>?_⟩
 rw [List.take_succ_eq_append_getElem hi]
 refine ⟨rfl,fun x hx2=>?_⟩
 rcases List.mem_append.1 hx2 with h | h
 ·exact hd x h
 ·rw [List.mem_singleton.1 h]; omega
theorem ris4 {xs L:List Int} {n:Int} {i:Nat} (hu:UpI xs) (hi:i<xs.length) (h:RisI xs n i L true):RisI xs n (i+1) (L++[xs[i]]) true∧xs[i]≠n:=by
 obtain ⟨rfl,y,hy,hd⟩:=h.1 rfl
 obtain ⟨h1,h2⟩:=risI_snoc (ris_up hu hi) ⟨y,hy,hd⟩
 refine ⟨⟨fun _=>?_,fun h=>by cases h⟩,h2⟩
 rw [List.take_succ_eq_append_getElem hi,h1]
 exact ⟨rfl,y,List.mem_append.2 (.inl hy),hd⟩
theorem ints_app (l m:List Int):ints (l++m)=ints l++ints m:=by simp [ints]
set_option maxHeartbeats 2000000 in
theorem Rising_fn {a : Option Addr} {xs : List Int} {c : Nat} {n : Int} (hx : Row S w0 [] a (ints xs)) (hl : xs.length < 1000000) (hu : UpI xs) :
    Rt Tryz.prog 34 [.slice a xs.length c,.int .i64 n].toArray S w0 η (fun v η'=>∃ oa oc og L,v = .slice oa L.length oc∧L=risI xs n∧OSl 3 1 (.slice oa L.length oc) L.length (ints L) og∧η'=og::η):=by
  have hF:=open_wide
  refine Rt.of (fn:=Tryz.f34) Tryz.func34 rfl rfl ?_
  refine T.seq ?_
  refine T.region ?_
  refine TL.assign hF rfl rfl ?_
  refine TL.nil ?_
  refine TQ.then_n ?_
  refine T.seq ?_
  refine T.region ?_
  refine TL.buildSlice hF rfl (cs:=#[]) (e:=3) (fun w=>by kernel_rfl) rfl (fun b8=>?_)
  refine TL.assign hF rfl rfl ?_
  refine TL.assign hF rfl rfl ?_
  refine TL.nil ?_
  refine TQ.then_n ?_
  refine T.seq ?_
  refine T.seq ?_
  refine T.region ?_
  refine TL.assign hF rfl rfl ?_
  refine TL.nil ?_
  refine TQ.then_n ?_
  refine T.block ?_
  refine T.loop (ι:=RS) (fun s=>s.i≤xs.length∧RisI xs n s.i s.L s.done∧s.L.length≤s.i+1∧OSl 3 1 (.slice s.a s.L.length s.c) s.L.length (ints s.L) s.g) (fun s=>[(0,.slice a xs.length c),(1,.int .i64 n),(4,.slice none 0 0),(5,.slice s.a s.L.length s.c),(6,.bool s.done),(7,.int .i64 (s.i:Int))]) (fun s=>s.g::η) (fun s=>xs.length - s.i) ⟨0,[],false,some ⟨b8,0,none⟩,0,[(b8,Obj.cells #[] 3 (0,0))]⟩ ⟨Nat.zero_le _,⟨fun h=>(by cases h),fun _=>⟨rfl,by simp⟩⟩,by simp,osl_empty⟩ ⟨rfl,rfl,rfl,rfl,rfl,rfl,trivial⟩ rfl ?_
  rintro ⟨i,L,done,oa,oc,og⟩ ⟨hi,hr,hLl,ho⟩
  dsimp only at hi hr hLl ho
  refine T.seq ?_
  refine T.seq ?_
  refine T.region ?_
  refine TL.move hF rfl rfl ?_
  refine TL.move hF rfl rfl ?_
  refine TL.len hF rfl rfl ?_
  refine TL.bin hF rfl rfl rfl rfl ?_
  refine TL.nil ?_
  refine TQ.then_n ?_
  first | refine T.cond_d rfl (fun ht12=>?_) (fun ht12=>?_) | refine T.cond _ rfl (fun ht12=>?_) (fun ht12=>?_)
  · refine T.skip ?_
    refine TQ.then_n ?_
    refine T.seq ?_
    refine T.block ?_
    refine T.seq ?_
    refine T.seq ?_
    refine T.region ?_
    refine TL.move hF rfl rfl ?_
    have hil:i<xs.length:=by have h:(i:Int)<(xs.length:Int):=ht12; omega
    refine TL.not hF rfl rfl ?_
    refine TL.move hF rfl rfl ?_
    refine TL.gb (t:=17) rfl (fun g5_17=>?_) (fun g5_17=>?_)
    · refine TL.on rfl rfl rfl g5_17 ?_
      refine TL.move hF rfl rfl ?_
      refine TL.on rfl rfl rfl g5_17 ?_
      refine TL.move hF rfl rfl ?_
      refine TL.on rfl rfl rfl g5_17 ?_
      refine TL.move hF rfl rfl ?_
      refine TL.on rfl rfl rfl g5_17 ?_
      refine TL.indexAddr hF rfl rfl (hx.adi (i:=i) (by simpa using hil)) (by dsimp only; omega) (by dsimp only; omega) rfl ?_
      refine TL.on rfl rfl rfl g5_17 ?_
      refine TL.load hF rfl (hx.ro.int (i:=i) hil) rfl ?_
      refine TL.on rfl rfl rfl g5_17 ?_
      refine TL.bin hF rfl rfl rfl rfl ?_
      refine TL.pickT hF rfl g5_17 rfl rfl ?_
      refine TL.nil ?_
      refine TQ.then_n ?_
      refine T.cond_d rfl (fun ht24=>?_) (fun ht24=>?_)
      · refine T.region ?_
        refine TL.move hF rfl rfl ?_
        refine TL.move hF rfl rfl ?_
        refine TL.buildSlice hF rfl (cs:=#[.int .i64 (n)]) (e:=3) (fun w=>by kernel_rfl) rfl (fun bq=>?_)
        (refine TL.append hF 1 rfl rfl rfl ho (row_own (cs:=[.int .i64 (n)]) (e:=3) (by simp)).src rfl rfl (by simp [Value.oneCell']) (by first | omega | (dsimp only; omega) | (simp; omega)) (by first | omega | (dsimp only; omega) | (simp; omega)) rfl (fun pa6 pc6 pg6 ph6=>?_)
         have hl6:(L++[n]).length=(L).length+1:=by simp
         rw [show ints (L)++[.int .i64 (n)]=ints (L++[n]) from (ints_app (L) [n]).symm,← hl6] at ph6
         rw [← hl6]
         refine TL.hsub (pg6::η) (List.sublist_cons_self _ _) ?_)
        refine TL.assign hF rfl rfl ?_
        refine TL.assign hF rfl rfl ?_
        refine TL.nil ?_
        refine TQ.then_n ?_
        refine T.seq ?_
        refine T.region ?_
        refine TL.move hF rfl rfl ?_
        refine TL.move hF rfl rfl ?_
        refine TL.indexAddr hF rfl rfl (hx.adi (i:=i) (by simpa using hil)) (by dsimp only; omega) (by dsimp only; omega) rfl ?_
        refine TL.load hF rfl (hx.ro.int (i:=i) hil) rfl ?_
        refine TL.move hF rfl rfl ?_
        refine TL.bin hF rfl rfl rfl rfl ?_
        refine TL.nil ?_
        refine TQ.then_n ?_
        first | refine T.cond_d rfl (fun ht34=>?_) (fun ht34=>?_) | refine T.cond _ rfl (fun ht34=>?_) (fun ht34=>?_)
        · refine T.region ?_
          refine TL.move hF rfl rfl ?_
          refine TL.move hF rfl rfl ?_
          refine TL.move hF rfl rfl ?_
          refine TL.indexAddr hF rfl rfl (hx.adi (i:=i) (by simpa using hil)) (by dsimp only; omega) (by dsimp only; omega) rfl ?_
          refine TL.load hF rfl (hx.ro.int (i:=i) hil) rfl ?_
          refine TL.buildSlice hF rfl (cs:=#[.int .i64 (xs[i])]) (e:=3) (fun w=>by kernel_rfl) rfl (fun bq=>?_)
          first
            | (refine TL.append hF 1 rfl rfl rfl ph6 (row_own (cs := [.int .i64 (xs[i])]) (e := 3) (by simp)).src rfl rfl (by simp [Value.oneCell']) (by first | omega | (dsimp only; omega) | (simp; omega)) (by first | omega | (dsimp only; omega) | (simp; omega)) rfl (fun pa8 pc8 pg8 ph8 => ?_)
               have hl8:(L++[n]++[xs[i]]).length=(L++[n]).length+1:=by simp
               rw [show ints (L++[n])++[.int .i64 (xs[i])]=ints (L++[n]++[xs[i]]) from (ints_app (L++[n]) [xs[i]]).symm,← hl8] at ph8
               rw [← hl8]
               refine TL.hsub (pg8::η) (List.sublist_cons_self _ _) ?_)
            | (refine TL.append hF 1 rfl rfl rfl ho (row_own (cs := [.int .i64 (xs[i])]) (e := 3) (by simp)).src rfl rfl (by simp [Value.oneCell']) (by first | omega | (dsimp only; omega) | (simp; omega)) (by first | omega | (dsimp only; omega) | (simp; omega)) rfl (fun pa8 pc8 pg8 ph8 => ?_)
               have hl8:(L++[xs[i]]).length=(L).length+1:=by simp
               rw [show ints (L)++[.int .i64 (xs[i])]=ints (L++[xs[i]]) from (ints_app (L) [xs[i]]).symm,← hl8] at ph8
               rw [← hl8]
               refine TL.hsub (pg8::η) (List.sublist_cons_self _ _) ?_)
          refine TL.assign hF rfl rfl ?_
          refine TL.nil ?_
          refine TQ.block_n ?_
          refine TQ.then_n ?_
          refine T.region ?_
          refine TL.move hF rfl rfl ?_
          refine TL.add hF rfl rfl (by dsimp only; omega) (by dsimp only; omega) rfl ?_
          refine TL.assign hF rfl rfl ?_
          refine TL.nil ?_
          have hdf:done=false:=by simpa using g5_17
          subst hdf
          have hLi:L.length=i:=by rw [(hr.2 rfl).1,List.length_take]; omega
          refine TQ.round ⟨i+1,L++[n]++[xs[i]],true,pa8,pc8,pg8⟩ ⟨by dsimp only; omega,ris1 hu hil hr ht24 ht34,by simp; omega,ph8⟩ (by dsimp only; omega) ⟨rfl,rfl,rfl,rfl,rfl,rfl,trivial⟩ rfl
        · refine T.skip ?_
          refine TQ.block_n ?_
          refine TQ.then_n ?_
          refine T.region ?_
          refine TL.move hF rfl rfl ?_
          refine TL.add hF rfl rfl (by dsimp only; omega) (by dsimp only; omega) rfl ?_
          refine TL.assign hF rfl rfl ?_
          refine TL.nil ?_
          have hdf:done=false:=by simpa using g5_17
          subst hdf
          have hLi:L.length=i:=by rw [(hr.2 rfl).1,List.length_take]; omega
          refine TQ.round ⟨i+1,L++[n],true,pa6,pc6,pg6⟩ ⟨by dsimp only; omega,ris2 hu hil hr ht24 ht34,by simp; omega,ph6⟩ (by dsimp only; omega) ⟨rfl,rfl,rfl,rfl,rfl,rfl,trivial⟩ rfl
      · refine T.skip ?_
        refine TQ.then_n ?_
        refine T.seq ?_
        refine T.region ?_
        refine TL.move hF rfl rfl ?_
        refine TL.move hF rfl rfl ?_
        refine TL.indexAddr hF rfl rfl (hx.adi (i:=i) (by simpa using hil)) (by dsimp only; omega) (by dsimp only; omega) rfl ?_
        refine TL.load hF rfl (hx.ro.int (i:=i) hil) rfl ?_
        refine TL.move hF rfl rfl ?_
        refine TL.bin hF rfl rfl rfl rfl ?_
        refine TL.nil ?_
        refine TQ.then_n ?_
        first | refine T.cond_d rfl (fun ht34=>?_) (fun ht34=>?_) | refine T.cond _ rfl (fun ht34=>?_) (fun ht34=>?_)
        · refine T.region ?_
          refine TL.move hF rfl rfl ?_
          refine TL.move hF rfl rfl ?_
          refine TL.move hF rfl rfl ?_
          refine TL.indexAddr hF rfl rfl (hx.adi (i:=i) (by simpa using hil)) (by dsimp only; omega) (by dsimp only; omega) rfl ?_
          refine TL.load hF rfl (hx.ro.int (i:=i) hil) rfl ?_
          refine TL.buildSlice hF rfl (cs:=#[.int .i64 (xs[i])]) (e:=3) (fun w=>by kernel_rfl) rfl (fun bq=>?_)
          first
            | (refine TL.append hF 1 rfl rfl rfl ph6 (row_own (cs := [.int .i64 (xs[i])]) (e := 3) (by simp)).src rfl rfl (by simp [Value.oneCell']) (by first | omega | (dsimp only; omega) | (simp; omega)) (by first | omega | (dsimp only; omega) | (simp; omega)) rfl (fun pa8 pc8 pg8 ph8 => ?_)
               have hl8:(L++[n]++[xs[i]]).length=(L++[n]).length+1:=by simp
               rw [show ints (L++[n])++[.int .i64 (xs[i])]=ints (L++[n]++[xs[i]]) from (ints_app (L++[n]) [xs[i]]).symm,← hl8] at ph8
               rw [← hl8]
               refine TL.hsub (pg8::η) (List.sublist_cons_self _ _) ?_)
            | (refine TL.append hF 1 rfl rfl rfl ho (row_own (cs := [.int .i64 (xs[i])]) (e := 3) (by simp)).src rfl rfl (by simp [Value.oneCell']) (by first | omega | (dsimp only; omega) | (simp; omega)) (by first | omega | (dsimp only; omega) | (simp; omega)) rfl (fun pa8 pc8 pg8 ph8 => ?_)
               have hl8:(L++[xs[i]]).length=(L).length+1:=by simp
               rw [show ints (L)++[.int .i64 (xs[i])]=ints (L++[xs[i]]) from (ints_app (L) [xs[i]]).symm,← hl8] at ph8
               rw [← hl8]
               refine TL.hsub (pg8::η) (List.sublist_cons_self _ _) ?_)
          refine TL.assign hF rfl rfl ?_
          refine TL.nil ?_
          refine TQ.block_n ?_
          refine TQ.then_n ?_
          refine T.region ?_
          refine TL.move hF rfl rfl ?_
          refine TL.add hF rfl rfl (by dsimp only; omega) (by dsimp only; omega) rfl ?_
          refine TL.assign hF rfl rfl ?_
          refine TL.nil ?_
          have hdf:done=false:=by simpa using g5_17
          subst hdf
          have hLi:L.length=i:=by rw [(hr.2 rfl).1,List.length_take]; omega
          refine TQ.round ⟨i+1,L++[xs[i]],false,pa8,pc8,pg8⟩ ⟨by dsimp only; omega,ris3 hil hr ht24,by simp; omega,ph8⟩ (by dsimp only; omega) ⟨rfl,rfl,rfl,rfl,rfl,rfl,trivial⟩ rfl
        · refine T.skip ?_
          refine TQ.block_n ?_
          refine TQ.then_n ?_
          refine T.region ?_
          refine TL.move hF rfl rfl ?_
          refine TL.add hF rfl rfl (by dsimp only; omega) (by dsimp only; omega) rfl ?_
          refine TL.assign hF rfl rfl ?_
          refine TL.nil ?_
          have hdf:done=false:=by simpa using g5_17
          subst hdf
          have hLi:L.length=i:=by rw [(hr.2 rfl).1,List.length_take]; omega
          exact absurd (show n≤xs[i] by omega) ht24
    · refine TL.off hF rfl rfl rfl g5_17 rfl ?_
      refine TL.off hF rfl rfl rfl g5_17 rfl ?_
      refine TL.off hF rfl rfl rfl g5_17 rfl ?_
      refine TL.off hF rfl rfl rfl g5_17 rfl ?_
      refine TL.off hF rfl rfl rfl g5_17 rfl ?_
      refine TL.off hF rfl rfl rfl g5_17 rfl ?_
      refine TL.pickF hF rfl g5_17 rfl rfl ?_
      refine TL.nil ?_
      refine TQ.then_n ?_
      refine T.cond_f rfl rfl ?_
      refine T.skip ?_
      refine TQ.then_n ?_
      refine T.seq ?_
      refine T.region ?_
      refine TL.move hF rfl rfl ?_
      refine TL.move hF rfl rfl ?_
      refine TL.indexAddr hF rfl rfl (hx.adi (i:=i) (by simpa using hil)) (by dsimp only; omega) (by dsimp only; omega) rfl ?_
      refine TL.load hF rfl (hx.ro.int (i:=i) hil) rfl ?_
      refine TL.move hF rfl rfl ?_
      refine TL.bin hF rfl rfl rfl rfl ?_
      refine TL.nil ?_
      refine TQ.then_n ?_
      first | refine T.cond_d rfl (fun ht34=>?_) (fun ht34=>?_) | refine T.cond _ rfl (fun ht34=>?_) (fun ht34=>?_)
      · refine T.region ?_
        refine TL.move hF rfl rfl ?_
        refine TL.move hF rfl rfl ?_
        refine TL.move hF rfl rfl ?_
        refine TL.indexAddr hF rfl rfl (hx.adi (i:=i) (by simpa using hil)) (by dsimp only; omega) (by dsimp only; omega) rfl ?_
        refine TL.load hF rfl (hx.ro.int (i:=i) hil) rfl ?_
        refine TL.buildSlice hF rfl (cs:=#[.int .i64 (xs[i])]) (e:=3) (fun w=>by kernel_rfl) rfl (fun bq=>?_)
        first
          | (refine TL.append hF 1 rfl rfl rfl ph6 (row_own (cs := [.int .i64 (xs[i])]) (e := 3) (by simp)).src rfl rfl (by simp [Value.oneCell']) (by first | omega | (dsimp only; omega) | (simp; omega)) (by first | omega | (dsimp only; omega) | (simp; omega)) rfl (fun pa8 pc8 pg8 ph8 => ?_)
             have hl8:(L++[n]++[xs[i]]).length=(L++[n]).length+1:=by simp
             rw [show ints (L++[n])++[.int .i64 (xs[i])]=ints (L++[n]++[xs[i]]) from (ints_app (L++[n]) [xs[i]]).symm,← hl8] at ph8
             rw [← hl8]
             refine TL.hsub (pg8::η) (List.sublist_cons_self _ _) ?_)
          | (refine TL.append hF 1 rfl rfl rfl ho (row_own (cs := [.int .i64 (xs[i])]) (e := 3) (by simp)).src rfl rfl (by simp [Value.oneCell']) (by first | omega | (dsimp only; omega) | (simp; omega)) (by first | omega | (dsimp only; omega) | (simp; omega)) rfl (fun pa8 pc8 pg8 ph8 => ?_)
             have hl8:(L++[xs[i]]).length=(L).length+1:=by simp
             rw [show ints (L)++[.int .i64 (xs[i])]=ints (L++[xs[i]]) from (ints_app (L) [xs[i]]).symm,← hl8] at ph8
             rw [← hl8]
             refine TL.hsub (pg8::η) (List.sublist_cons_self _ _) ?_)
        refine TL.assign hF rfl rfl ?_
        refine TL.nil ?_
        refine TQ.block_n ?_
        refine TQ.then_n ?_
        refine T.region ?_
        refine TL.move hF rfl rfl ?_
        refine TL.add hF rfl rfl (by dsimp only; omega) (by dsimp only; omega) rfl ?_
        refine TL.assign hF rfl rfl ?_
        refine TL.nil ?_
        have hdt:done=true:=by simpa using g5_17
        subst hdt
        refine TQ.round ⟨i+1,L++[xs[i]],true,pa8,pc8,pg8⟩ ⟨by dsimp only; omega,(ris4 hu hil hr).1,by simp; omega,ph8⟩ (by dsimp only; omega) ⟨rfl,rfl,rfl,rfl,rfl,rfl,trivial⟩ rfl
      · refine T.skip ?_
        refine TQ.block_n ?_
        refine TQ.then_n ?_
        refine T.region ?_
        refine TL.move hF rfl rfl ?_
        refine TL.add hF rfl rfl (by dsimp only; omega) (by dsimp only; omega) rfl ?_
        refine TL.assign hF rfl rfl ?_
        refine TL.nil ?_
        have hdt:done=true:=by simpa using g5_17
        subst hdt
        exact absurd (ris4 hu hil hr).2 ht34
  · refine T.exit ?_
    refine TQ.then_x ?_
    refine TQ.then_x ?_
    refine TQ.block_x ?_
    refine TQ.then_n ?_
    refine T.seq ?_
    refine T.seq ?_
    refine T.region ?_
    refine TL.move hF rfl rfl ?_
    refine TL.not hF rfl rfl ?_
    refine TL.nil ?_
    refine TQ.then_n ?_
    refine T.cond _ rfl (fun ht43=>?_) (fun ht43=>?_)
    · refine T.region ?_
      refine TL.move hF rfl rfl ?_
      refine TL.move hF rfl rfl ?_
      refine TL.buildSlice hF rfl (cs:=#[.int .i64 (n)]) (e:=3) (fun w=>by kernel_rfl) rfl (fun bq=>?_)
      (refine TL.append hF 1 rfl rfl rfl ho (row_own (cs:=[.int .i64 (n)]) (e:=3) (by simp)).src rfl rfl (by simp [Value.oneCell']) (by first | omega | (dsimp only; omega) | (simp; omega)) (by first | omega | (dsimp only; omega) | (simp; omega)) rfl (fun pa10 pc10 pg10 ph10=>?_)
       have hl10:(L++[n]).length=(L).length+1:=by simp
       rw [show ints (L)++[.int .i64 (n)]=ints (L++[n]) from (ints_app (L) [n]).symm,← hl10] at ph10
       rw [← hl10]
       refine TL.hsub (pg10::η) (List.sublist_cons_self _ _) ?_)
      refine TL.assign hF rfl rfl ?_
      refine TL.nil ?_
      refine TQ.then_n ?_
      refine T.seq ?_
      refine T.region ?_
      refine TL.move hF rfl rfl ?_
      refine TL.assign hF rfl rfl ?_
      refine TL.nil ?_
      refine TQ.then_n ?_
      refine T.ret ?_
      have hdf:done=false:=by simpa using ht43
      subst hdf
      have hie:xs.length≤i:=by have h:¬ (i:Int)<(xs.length:Int):=ht12; omega
      have h9:=hr.2 rfl
      rw [List.take_of_length_le hie] at h9
      refine TQ.rets [4] _ rfl rfl rfl ?_
      exact ⟨pa10,pc10,pg10,L++[n],rfl,by rw [risI_end hu h9.2,h9.1],ph10,rfl⟩
    · refine T.skip ?_
      refine TQ.then_n ?_
      refine T.seq ?_
      refine T.region ?_
      refine TL.move hF rfl rfl ?_
      refine TL.assign hF rfl rfl ?_
      refine TL.nil ?_
      refine TQ.then_n ?_
      refine T.ret ?_
      have hdt:done=true:=by simpa using ht43
      subst hdt
      have hie:xs.length≤i:=by have h:¬ (i:Int)<(xs.length:Int):=ht12; omega
      have h9:=hr.1 rfl
      rw [List.take_of_length_le hie] at h9
      refine TQ.rets [4] _ rfl rfl rfl ?_
      exact ⟨oa,oc,og,L,rfl,h9.1,ho,rfl⟩
end Go.Proofs.YtdiacobmhkmljaaGreatDoor
