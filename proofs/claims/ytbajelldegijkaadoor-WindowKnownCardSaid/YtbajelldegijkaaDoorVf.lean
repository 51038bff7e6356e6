/- Several texts in one. -/
import Derived.Test.YtbajelldegijkaaDoorVe
import Derived.Test.YtbajelldegijkaaDoorVc
import Derived.Test.YtbajelldegijkaaDoorVb
import Derived.Test.YtbajelldegijkaaDoorRows
import Derived.LaidMore
import Derived.OpenShut
import Derived.Deep.Strs
import Derived.Stop.Joined
/- Leaves of the laws: rows, windows, ways to cut; lists of windows compared; Check. -/
namespace Go.Proofs.YtbajelldegijkaaDoor
open Go.Sl
variable {S:Nat→Prop} {w0:World} {η:Heap}
open Go in
theorem eqOt (a b:Ot) (w:World):(Op.equal 59 (otV a) (otV b)).run Tryd.prog w = .ok (decide (a=b)) w:=by
 have hf:Tryd.prog.underlying 59=some (.struct (Tryd.prog.fieldsOf 59)):=by kernel_rfl
 have hs:Tryd.prog.stoodInHeld 59=false:=by kernel_rfl
 obtain ⟨f1, f2, f3, f4, h12, n1, n2, n3, n4, t1, t2, t3, t4, o1, o2, o3, o4⟩ : ∃ f1 f2 f3 f4, (Tryd.prog.fieldsOf 59).toList = [f1, f2, f3, f4] ∧ f1.name ≠ "_" ∧ f2.name ≠ "_" ∧ f3.name ≠ "_" ∧ f4.name ≠ "_" ∧ f1.type = 3 ∧ f2.type = 3 ∧ f3.type = 3 ∧ f4.type = 3 ∧ f1.offset = 0 ∧ f2.offset = 1 ∧ f3.offset = 2 ∧ f4.offset = 3 := by
  unfold Program.fieldsOf; rw [show Tryd.prog.underlying 59=Tryd.prog.underlying 58 from by kernel_rfl,Tryd.underlying58]
  exact ⟨_,_,_,_,rfl,by decide,by decide,by decide,by decide,rfl,rfl,rfl,rfl,rfl,rfl,rfl,rfl⟩
 have hp:∀ (cs:Array Value) (o:Nat) (v:Value),cs[o]?=some v→(part 3 cs o).run Tryd.prog w = .ok v w:=by
  intro cs o v h
  simp [part,Ag.eq (P:=Tryd.prog) (t:=3) (b:=false),h]
 obtain ⟨a1,a2,a3,a4⟩:=a
 obtain ⟨b1,b2,b3,b4⟩:=b
 unfold Op.equal
 rw [show Op.maxDepth=9999+1 from rfl,run_equalIn_struct w 9999 59 _ _ hf hs,h12]
 have hall:AllF Tryd.prog w 9999 #[.int .i64 a1,.int .i64 a2,.int .i64 a3,.int .i64 a4] #[.int .i64 b1,.int .i64 b2,.int .i64 b3,.int .i64 b4] [f1,f2,f3,f4] [(.int .i64 a1,.int .i64 b1,a1 == b1),(.int .i64 a2,.int .i64 b2,a2 == b2),(.int .i64 a3,.int .i64 b3,a3 == b3),(.int .i64 a4,.int .i64 b4,a4 == b4)] :=
  ⟨⟨n1,by rw [o1,t1]; exact hp _ 0 _ rfl,by rw [o1,t1]; exact hp _ 0 _ rfl,by rw [t1]; exact run_equalIn_int w 9998 3 .i64 .i64 a1 b1 Tryd.underlying3⟩,
   ⟨n2,by rw [o2,t2]; exact hp _ 1 _ rfl,by rw [o2,t2]; exact hp _ 1 _ rfl,by rw [t2]; exact run_equalIn_int w 9998 3 .i64 .i64 a2 b2 Tryd.underlying3⟩,
   ⟨n3,by rw [o3,t3]; exact hp _ 2 _ rfl,by rw [o3,t3]; exact hp _ 2 _ rfl,by rw [t3]; exact run_equalIn_int w 9998 3 .i64 .i64 a3 b3 Tryd.underlying3⟩,
   ⟨n4,by rw [o4,t4]; exact hp _ 3 _ rfl,by rw [o4,t4]; exact hp _ 3 _ rfl,by rw [t4]; exact run_equalIn_int w 9998 3 .i64 .i64 a4 b4 Tryd.underlying3⟩,trivial⟩
 rw [run_eqFields_all _ _ hall]
 by_cases h:a1=b1 <;> by_cases g:a2=b2 <;> by_cases q:a3=b3 <;> by_cases z:a4=b4 <;> simp [h,g,q,z]
set_option maxHeartbeats 2000000 in
theorem row_fn (t k w : Int) :
  Rt Tryd.prog 33 [.int .i64 t,.int .i64 k,.int .i64 w].toArray S w0 η (fun v η'=>v=rwV ⟨t,k,w⟩∧η'=η):=by
 have hF:=open_wide
 refine Rt.of (fn:=Tryd.f33) Tryd.func33 rfl rfl ?_
 refine T.seq ?_
 refine T.region ?_
 refine TL.alloc hF rfl (fun b6=>?_)
 refine TL.nil ?_
 refine TQ.then_n ?_
 refine T.seq ?_
 refine T.region ?_
 refine TL.move hF rfl rfl ?_
 refine TL.move hF rfl rfl ?_
 refine TL.move hF rfl rfl ?_
 refine TL.build hF rfl (r:=rwV ⟨t,k,w⟩) (fun w=>by kernel_rfl) rfl ?_
 refine TL.storeAs hF (rwC ⟨t,k,w⟩) (rwC ⟨t,k,w⟩) 0 (cs:=[.int .i64 0,.int .i64 0,.int .i64 0]) rfl rfl rfl rfl (rwC1 _) (Nat.le_refl 3) rfl ?_
 refine TL.nil ?_
 refine TQ.then_n ?_
 refine T.ret ?_
 refine TQ.retC (rwC ⟨t,k,w⟩) η rfl rfl rfl (own_list (i:=0) (cs:=rwC ⟨t,k,w⟩) rfl) (List.sublist_cons_self _ _) ⟨rfl,rfl⟩
set_option maxHeartbeats 2000000 in
theorem outL_fn (a b k w : Int) :
  Rt Tryd.prog 36 [.int .i64 a,.int .i64 b,.int .i64 k,.int .i64 w].toArray S w0 η (fun v η'=>v=otV ⟨a,b,k,w⟩∧η'=η):=by
 have hF:=open_wide
 refine Rt.of (fn:=Tryd.f36) Tryd.func36 rfl rfl ?_
 refine T.seq ?_
 refine T.region ?_
 refine TL.alloc hF rfl (fun b8=>?_)
 refine TL.nil ?_
 refine TQ.then_n ?_
 refine T.seq ?_
 refine T.region ?_
 refine TL.move hF rfl rfl ?_
 refine TL.move hF rfl rfl ?_
 refine TL.move hF rfl rfl ?_
 refine TL.move hF rfl rfl ?_
 refine TL.build hF rfl (r:=otV ⟨a,b,k,w⟩) (fun w=>by kernel_rfl) rfl ?_
 refine TL.storeAs hF (otC ⟨a,b,k,w⟩) (otC ⟨a,b,k,w⟩) 0 (cs:=[.int .i64 0,.int .i64 0,.int .i64 0,.int .i64 0]) rfl rfl rfl rfl (otC1 _) (Nat.le_refl 4) rfl ?_
 refine TL.nil ?_
 refine TQ.then_n ?_
 refine T.ret ?_
 refine TQ.retC (otC ⟨a,b,k,w⟩) η rfl rfl rfl (own_list (i:=0) (cs:=otC ⟨a,b,k,w⟩) rfl) (List.sublist_cons_self _ _) ⟨rfl,rfl⟩
def slW:Wsp:=⟨0,10,5,3,1⟩
def seW:Wsp:=⟨1,4,0,2,0⟩
set_option maxHeartbeats 2000000 in
theorem slides_fn  :
  Rt Tryd.prog 34 [].toArray S w0 η (fun v η'=>v=wsV slW∧η'=η):=by
 have hF:=open_wide
 refine Rt.of (fn:=Tryd.f34) Tryd.func34 rfl rfl ?_
 refine T.seq ?_
 refine T.region ?_
 refine TL.alloc hF rfl (fun b0=>?_)
 refine TL.nil ?_
 refine TQ.then_n ?_
 refine T.seq ?_
 refine T.region ?_
 refine TL.build hF rfl (r:=wsV slW) (fun w=>by kernel_rfl) rfl ?_
 refine TL.storeAs hF (wsC slW) (wsC slW) 0 (cs:=[.int .i64 0,.int .i64 0,.int .i64 0,.int .i64 0,.int .i64 0]) rfl rfl rfl rfl (wsC1 _) (Nat.le_refl 5) rfl ?_
 refine TL.nil ?_
 refine TQ.then_n ?_
 refine T.ret ?_
 refine TQ.retC (wsC slW) η rfl rfl rfl (own_list (i:=0) (cs:=wsC slW) rfl) (List.sublist_cons_self _ _) ⟨rfl,rfl⟩
set_option maxHeartbeats 2000000 in
theorem sessions_fn  :
  Rt Tryd.prog 35 [].toArray S w0 η (fun v η'=>v=wsV seW∧η'=η):=by
 have hF:=open_wide
 refine Rt.of (fn:=Tryd.f35) Tryd.func35 rfl rfl ?_
 refine T.seq ?_
 refine T.region ?_
 refine TL.alloc hF rfl (fun b0=>?_)
 refine TL.nil ?_
 refine TQ.then_n ?_
 refine T.seq ?_
 refine T.region ?_
 refine TL.build hF rfl (r:=wsV seW) (fun w=>by kernel_rfl) rfl ?_
 refine TL.storeAs hF (wsC seW) (wsC seW) 0 (cs:=[.int .i64 0,.int .i64 0,.int .i64 0,.int .i64 0,.int .i64 0]) rfl rfl rfl rfl (wsC1 _) (Nat.le_refl 5) rfl ?_
 refine TL.nil ?_
 refine TQ.then_n ?_
 refine T.ret ?_
 refine TQ.retC (wsC seW) η rfl rfl rfl (own_list (i:=0) (cs:=wsC seW) rfl) (List.sublist_cons_self _ _) ⟨rfl,rfl⟩
set_option maxHeartbeats 2000000 in
theorem outs_fn {a b : Option Addr} {l m : List Ot} {c d : Nat} (hx : ORow S w0 η a l) (hy : ORow S w0 η b m) (hl : l.length < 1000000000000) :
  Rt Tryd.prog 20 [.slice a l.length c,.slice b m.length d].toArray S w0 η (fun v η'=>v = .bool (decide (l=m))∧η'=η):=by
 have hF:=open_wide
 refine Rt.of (fn:=Tryd.f20) Tryd.func20 rfl rfl ?_
 refine T.seq ?_
 refine T.region ?_
 refine TL.assign hF rfl rfl ?_
 refine TL.nil ?_
 refine TQ.then_n ?_
 refine T.seq ?_
 refine T.region ?_
 refine TL.move hF rfl rfl ?_
 refine TL.len hF rfl rfl ?_
 refine TL.move hF rfl rfl ?_
 refine TL.len hF rfl rfl ?_
 refine TL.bin hF rfl rfl rfl rfl ?_
 refine TL.assign hF rfl rfl ?_
 refine TL.nil ?_
 refine TQ.then_n ?_
 refine T.seq ?_
 refine T.seq ?_
 refine T.region ?_
 refine TL.assign hF rfl rfl ?_
 refine TL.nil ?_
 refine TQ.then_n ?_
 refine T.block ?_
 refine T.loop (ι:=Nat × Bool) (fun z=>(z.2=decide (l.length=m.length∧l.take z.1=m.take z.1)∧(z.2=true→z.1≤l.length))∧z.1<9000000000000000000) (fun z=>[(0,.slice a l.length c),(1,.slice b m.length d),(4,.bool false),(5,.bool z.2),(6,.int .i64 (z.1:Int))]) (fun _=>η) (fun z=>(if z.2 then 1 else 0)*(l.length+1 - z.1)) (0,decide ((l.length:Int)=(m.length:Int))) ⟨⟨by dsimp only; simp; omega,fun _=>Nat.zero_le _⟩,by dsimp only; omega⟩ ⟨rfl,rfl,rfl,rfl,rfl,trivial⟩ rfl ?_
 rintro ⟨i,lk⟩ ⟨⟨hlk,hi⟩,hib⟩
 dsimp only at hlk hi hib
 refine T.seq ?_
 refine T.seq ?_
 refine T.region ?_
 refine TL.move hF rfl rfl ?_
 refine TL.move hF rfl rfl ?_
 refine TL.join [_,_,_,_,_] 18 (.bool (lk && decide ((i:Int)<(l.length:Int)))) rfl ?_ ?_
 ·refine TL.gb (t:=13) rfl (fun g3_13=>?_) (fun g3_13=>?_)
  ·refine TL.on rfl rfl rfl g3_13 ?_
   refine TL.move hF rfl rfl ?_
   refine TL.on rfl rfl rfl g3_13 ?_
   refine TL.move hF rfl rfl ?_
   refine TL.on rfl rfl rfl g3_13 ?_
   refine TL.len hF rfl rfl ?_
   refine TL.on rfl rfl rfl g3_13 ?_
   refine TL.bin hF rfl rfl rfl rfl ?_
   refine TL.pickT hF rfl g3_13 rfl rfl ?_
   refine TL.finJ ⟨?_,by repeat (first | exact trivial | refine ⟨rfl,?_⟩)⟩
   exact congrArg (fun z=>some (Value.bool z)) (by rw [show lk=_ from g3_13]; rfl)
  ·refine TL.off hF rfl rfl rfl g3_13 rfl ?_
   refine TL.off hF rfl rfl rfl g3_13 rfl ?_
   refine TL.off hF rfl rfl rfl g3_13 rfl ?_
   refine TL.off hF rfl rfl rfl g3_13 rfl ?_
   refine TL.pickF hF rfl g3_13 rfl rfl ?_
   refine TL.finJ ⟨?_,by repeat (first | exact trivial | refine ⟨rfl,?_⟩)⟩
   exact congrArg (fun z=>some (Value.bool z)) (by rw [show lk=_ from g3_13]; rfl)
 ·refine TL.nil ?_
  refine TQ.then_n ?_
  refine T.cond _ rfl (fun ht18=>?_) (fun ht18=>?_)
  ·refine T.skip ?_
   refine TQ.then_n ?_
   refine T.seq ?_
   refine T.block ?_
   simp only [Bool.and_eq_true,decide_eq_true_eq] at ht18
   obtain ⟨hk1,hk2⟩:=ht18
   subst hk1
   have hke:=of_decide_eq_true hlk.symm
   have hil:i<l.length:=by omega
   have him:i<m.length:=by omega
   have tl:l.take (i+1)=l.take i++[l[i]]:=List.take_succ_eq_append_getElem hil
   have tm:m.take (i+1)=m.take i++[m[i]]:=List.take_succ_eq_append_getElem him
   refine T.draw ?_
   refine DR.stepV [_] rfl [(0,_,none)] rfl rfl ⟨⟨rfl,by kernel_rfl⟩,trivial⟩ (fun ext=>TL.move hF rfl rfl TL.fin) ?_
   refine DR.stepV [_,_] rfl [(6,_,none)] rfl rfl ⟨⟨rfl,by kernel_rfl⟩,trivial⟩ (fun ext=>TL.move hF rfl rfl TL.fin) ?_
   refine DR.stepV [_,_,_] rfl [(21,_,some 0),(22,_,some 1)] rfl rfl ⟨⟨rfl,rfl,rfl⟩,⟨rfl,rfl,rfl⟩,trivial⟩ (fun ext=>TL.indexAddr hF rfl rfl (or_ad hx hil) (by omega) (by omega) rfl TL.fin) ?_
   refine DR.stepV [_,_,_,_] rfl [(23,_,some 2)] rfl rfl ⟨⟨rfl,rfl,rfl⟩,trivial⟩ (fun ext=>TL.loadA hF (otC l[i]) rfl rfl (or_at hx hil) rfl TL.fin) ?_
   refine DR.stepV [_,_,_,_,_] rfl [(1,_,none)] rfl rfl ⟨⟨rfl,by kernel_rfl⟩,trivial⟩ (fun ext=>TL.move hF rfl rfl TL.fin) ?_
   refine DR.stepV [_,_,_,_,_,_] rfl [(6,_,none)] rfl rfl ⟨⟨rfl,by kernel_rfl⟩,trivial⟩ (fun ext=>TL.move hF rfl rfl TL.fin) ?_
   refine DR.stepV [_,_,_,_,_,_,_] rfl [(25,_,some 4),(26,_,some 5)] rfl rfl ⟨⟨rfl,rfl,rfl⟩,⟨rfl,rfl,rfl⟩,trivial⟩ (fun ext=>TL.indexAddr hF rfl rfl (or_ad hy him) (by omega) (by omega) rfl TL.fin) ?_
   refine DR.stepV [_,_,_,_,_,_,_,_] rfl [(27,_,some 6)] rfl rfl ⟨⟨rfl,rfl,rfl⟩,trivial⟩ (fun ext=>TL.loadA hF (otC m[i]) rfl rfl (or_at hy him) rfl TL.fin) ?_
   refine DR.done [(28,_),(27,_),(26,_),(25,_),(24,_),(23,_),(22,_),(21,_)] [_,_] mixed (by kernel_rfl) (by kernel_rfl) (by kernel_rfl) rfl rfl ?_
   refine TL.eqlA hF rfl rfl (by kernel_rfl) (eqOt l[i] m[i]) rfl ?_
   refine TL.assign hF rfl rfl ?_
   refine TL.nil ?_
   refine TQ.block_n ?_
   refine TQ.then_n ?_
   refine T.region ?_
   refine TL.move hF rfl rfl ?_
   refine TL.add hF rfl rfl (by omega) (by omega) rfl ?_
   refine TL.assign hF rfl rfl ?_
   refine TL.nil ?_
   refine TQ.round (i+1,decide (l[i]=m[i])) ⟨⟨?_,fun _=>hil⟩,by dsimp only; omega⟩ (by dsimp only; cases decide (l[i]=m[i]) <;> simp <;> omega) ⟨rfl,rfl,rfl,rfl,rfl,trivial⟩ rfl
   dsimp only
   rw [tl,tm,hke.2]
   refine decide_eq_decide.2 ⟨fun h=>⟨hke.1,by rw [h]⟩,fun h=>?_⟩
   have:=List.append_cancel_left h.2
   simpa using this
  ·refine T.exit ?_
   refine TQ.then_x ?_
   refine TQ.then_x ?_
   refine TQ.block_x ?_
   refine TQ.then_n ?_
   refine T.seq ?_
   refine T.region ?_
   refine TL.move hF rfl rfl ?_
   refine TL.assign hF rfl rfl ?_
   refine TL.nil ?_
   refine TQ.then_n ?_
   refine T.ret ?_
   rw [← Bool.not_eq_true] at ht18
   simp only [Bool.and_eq_true,decide_eq_true_eq] at ht18
   refine TQ.rets [4] _ rfl rfl rfl ⟨?_,rfl⟩
   show Value.bool lk=Value.bool _
   congr 1
   cases hq:lk with
   | true =>
    subst hq
    have hke:=of_decide_eq_true hlk.symm
    have hie:l.length≤i:=by
     have h1:¬ (i:Int)<(l.length:Int):=fun h=>ht18 ⟨rfl,h⟩
     omega
    rw [List.take_of_length_le hie,List.take_of_length_le (by omega)] at hke
    exact (decide_eq_true hke.2).symm
   | false =>
    subst hq
    refine (decide_eq_false fun e=>?_).symm
    subst e
    simp at hlk
set_option maxHeartbeats 2000000 in
theorem Check_raw (ht : Tabs S w0) (s : Wsp) :
  Rt Tryd.prog 18 [wsV s].toArray S w0 η (fun v η'=>v = .int .i64 (checkS s)∧∃ segs,η'=segs++η):=by
 have hF:=open_wide
 refine Rt.ofL (fn:=Tryd.f18) Tryd.func18 rfl rfl ?_
 refine T.seq ?_
 refine T.region ?_
 refine TL.box hF rfl rfl (fun b1=>?_)
 refine TL.alloc hF rfl (fun b2=>?_)
 refine TL.nil ?_
 refine TQ.then_n ?_
 refine T.seq ?_
 refine T.region ?_
 refine TL.makeFunc hF rfl rfl rfl ?_
 refine TL.defer hF rfl rfl ?_
 refine TL.nil ?_
 refine TQ.then_n ?_
 refine T.seq ?_
 refine T.region ?_
 refine TL.loadA hF (wsC s) rfl rfl (own_list (i:=1) (cs:=wsC s) rfl) rfl ?_
 refine TL.callE hF (checked_fn ht s) rfl rfl ?_ ?_
 ·rintro _ _ ⟨hok,rfl,rfl⟩
  refine TL.nil ?_
  refine TQ.then_n ?_
  refine T.seq ?_
  refine T.region ?_
  refine TL.storeI hF 0 rfl rfl rfl rfl (by decide) ?_
  refine TL.nil ?_
  refine TQ.then_n ?_
  refine T.ret ?_
  refine TQ.retL [] [] stop49 (stopped_nil _) rfl rfl rfl (At.own' (i:=0) rfl rfl) ?_
  exact ⟨by unfold checkS; rw [if_pos hok]; rfl,[_,_],rfl⟩
 ·rintro _ _ ⟨hok,rfl,rfl⟩
  refine TQ.then_p ?_
  refine TQ.panL [] [] stop49 (stopped_err _) rfl rfl rfl (At.own' (i:=0) rfl rfl) ?_
  exact ⟨by unfold checkS; rw [if_neg (by rw [hok]; exact Bool.false_ne_true)]; rfl,[_,_],rfl⟩
theorem Rt.clean {P:Program} {g:FuncId} {args:Array Value} {R:Value→Prop} (h:Rt P g args S w0 η (fun v η'=>R v∧∃ segs,η'=segs++η)):Rt P g args S w0 η (fun v η'=>R v∧η'=η):=fun w hh =>
 (h w hh).mono fun _e _w' ⟨v,_η',h1,h2,h3,_segs,h4⟩=>⟨v,η,h1,(h4 ▸ h2).seg (List.sublist_append_right _ _),h3,rfl⟩
theorem Check_fn (ht:Tabs S w0) (s:Wsp):Rt Tryd.prog 18 [wsV s].toArray S w0 η (fun v η'=>v = .int .i64 (checkS s)∧η'=η):=Rt.clean (Check_raw ht s)
end Go.Proofs.YtbajelldegijkaaDoor
/- What all laws end with. -/
namespace Go.Proofs.YtbajelldegijkaaDoor
open Go.Sl
variable {S:Nat→Prop} {w0:World} {η:Heap}
theorem lw1:windowsS slW 12=([(5,15),(10,20)],0):=by decide +kernel
theorem lw2:wholeS slW [⟨12,1,5⟩,⟨3,1,2⟩,⟨12,2,7⟩]=([⟨0,10,1,2⟩,⟨5,15,1,5⟩,⟨5,15,2,7⟩,⟨10,20,1,5⟩,⟨10,20,2,7⟩],0):=by decide +kernel
theorem lw3:wholeS seW [⟨1,1,0⟩,⟨4,1,0⟩,⟨9,1,0⟩,⟨3,2,0⟩]=([⟨1,8,1,2⟩,⟨3,7,2,1⟩,⟨9,13,1,1⟩],0):=by decide +kernel
theorem lw6:playS slW [⟨3,1,2⟩,⟨12,1,5⟩,⟨13,1,1⟩,⟨8,1,9⟩]=([⟨false,[]⟩,⟨false,[]⟩,⟨false,[⟨0,10,1,2⟩]⟩,⟨true,[]⟩],[⟨5,15,1,6⟩,⟨10,20,1,6⟩],0):=by decide +kernel
theorem lw7:playS seW [⟨1,1,0⟩,⟨6,1,0⟩,⟨4,1,0⟩,⟨12,1,0⟩]=([⟨false,[]⟩,⟨false,[]⟩,⟨false,[]⟩,⟨false,[⟨1,10,1,3⟩]⟩],[⟨12,16,1,1⟩],0):=by decide +kernel
theorem lw8:queueS 3 [3,5,1,-2147483649,-2147483649,-2147483649,-2147483649]=([3,5,5,5,1,-2147483648,-2147483648],0):=by decide +kernel
theorem lw12:checkS slW=0:=by decide +kernel
theorem SLs.map {S':Nat→Prop} {w1:World} {η':Heap} (hm:∀ a cs,Row S w0 η a cs→Row S' w1 η' a cs) {a:Option Addr} {l:List SH} (h:SLs S w0 η a l):SLs S' w1 η' a l:=⟨hm _ _ h.row,fun x hx=>hm _ _ (h.item x hx)⟩
theorem SLs.frz {S':Nat→Prop} {w1:World} {ηr:Heap} {a:Option Addr} {l:List SH} (h:SLs S w0 ηr a l) (hz:Frz S S' w0 w1 ηr):SLs S' w1 [] a l:=h.map fun _ _ hr=>hr.frz hz
theorem SLs.old {S':Nat→Prop} {w1:World} {ηr:Heap} {a:Option Addr} {l:List SH} (h:SLs S w0 [] a l) (hz:Frz S S' w0 w1 ηr):SLs S' w1 [] a l:=h.map fun _ _ hr=>hr.old hz
theorem SLs.up {η':Heap} {a:Option Addr} {l:List SH} (h:SLs S w0 η a l) (hs:∀ s∈η,s∈η'):SLs S w0 η' a l:=h.map fun _ _ hr=>hr.up hs
theorem st4 {l:List SH} {p q r s:Stp} (h:l.map (·.st)=[p,q,r,s]):∃ a0 c0 a1 c1 a2 c2 a3 c3,l=[⟨p,a0,c0⟩,⟨q,a1,c1⟩,⟨r,a2,c2⟩,⟨s,a3,c3⟩]:=by
 match l,h with
 | [⟨_,a0,c0⟩,⟨_,a1,c1⟩,⟨_,a2,c2⟩,⟨_,a3,c3⟩],h =>
  simp only [List.map_cons,List.map_nil,List.cons.injEq,and_true] at h
  obtain ⟨rfl,rfl,rfl,rfl⟩:=h
  exact ⟨a0,c0,a1,c1,a2,c2,a3,c3,rfl⟩
set_option maxHeartbeats 16000000 in
theorem windowed_law (hT : Tabs S w0) :
  Rt Tryd.prog 13 [].toArray S w0 η (fun v _=>v = .bool true):=by
 have hF:=open_wide
 refine Rt.of (fn:=Tryd.f13) Tryd.func13 rfl rfl ?_
 refine T.seq ?_
 refine T.region ?_
 refine TL.assign hF rfl rfl ?_
 refine TL.nil ?_
 refine TQ.then_n ?_
 refine T.seq ?_
 refine T.region ?_
 have hb:=Back.refl S w0
 refine TL.callV hF slides_fn rfl rfl ?_
 refine TL.call hF (Windows_fn hT slW 12) rfl rfl ?_
 rintro _ _ ⟨a1,c1,segs,rfl,h1,rfl⟩
 rw [lw1] at h1 ⊢
 refine TL.freeze (segs) rfl (fun S1 w1 hz1=>?_)
 replace hb:=hb.frz hz1
 replace hT:=hT.old hz1
 replace h1:=h1.frz hz1
 refine TL.move hF rfl rfl ?_
 refine TL.extract hF rfl rfl rfl ?_
 refine TL.extract hF rfl rfl rfl ?_
 refine TL.assign hF rfl rfl ?_
 refine TL.assign hF rfl rfl ?_
 refine TL.nil ?_
 refine TQ.then_n ?_
 refine T.seq ?_
 refine T.region ?_
 refine TL.callV hF (slides_fn) rfl rfl ?_
 refine TL.callV hF (row_fn 12 1 5) rfl rfl ?_
 refine TL.callV hF (row_fn 3 1 2) rfl rfl ?_
 refine TL.callV hF (row_fn 12 2 7) rfl rfl ?_
 refine TL.buildSlice hF rfl (cs:=(([⟨12,1,5⟩,⟨3,1,2⟩,⟨12,2,7⟩]:List Rw).flatMap rwC).toArray) (e:=57) (fun w=>by kernel_rfl) rfl (fun b23=>?_)
 have r23:RRow S1 w1 [[(b23,Obj.cells (([⟨12,1,5⟩,⟨3,1,2⟩,⟨12,2,7⟩]:List Rw).flatMap rwC).toArray 57 (0,0))]] (some ⟨b23,0,none⟩) [⟨12,1,5⟩,⟨3,1,2⟩,⟨12,2,7⟩]:=row_own (e:=57) (by simp)
 refine TL.freeze ([[(b23,Obj.cells (([⟨12,1,5⟩,⟨3,1,2⟩,⟨12,2,7⟩]:List Rw).flatMap rwC).toArray 57 (0,0))]]) rfl (fun S2 w2 hz2=>?_)
 replace hb:=hb.frz hz2
 replace hT:=hT.old hz2
 replace h1:=h1.old hz2
 replace r23:=r23.frz hz2
 refine TL.call hF (Whole_fn hT slW (l:=[⟨12,1,5⟩,⟨3,1,2⟩,⟨12,2,7⟩]) (c:=3) r23 (by decide) (by decide)) rfl rfl ?_
 rintro _ _ ⟨a2,c2,segs,rfl,h2,rfl⟩
 rw [lw2] at h2 ⊢
 refine TL.freeze (segs) rfl (fun S3 w3 hz3=>?_)
 replace hb:=hb.frz hz3
 replace hT:=hT.old hz3
 replace h1:=h1.old hz3
 replace r23:=r23.old hz3
 replace h2:=h2.frz hz3
 refine TL.move hF rfl rfl ?_
 refine TL.extract hF rfl rfl rfl ?_
 refine TL.extract hF rfl rfl rfl ?_
 refine TL.assign hF rfl rfl ?_
 refine TL.assign hF rfl rfl ?_
 refine TL.nil ?_
 refine TQ.then_n ?_
 refine T.seq ?_
 refine T.region ?_
 refine TL.callV hF (sessions_fn) rfl rfl ?_
 refine TL.callV hF (row_fn 1 1 0) rfl rfl ?_
 refine TL.callV hF (row_fn 4 1 0) rfl rfl ?_
 refine TL.callV hF (row_fn 9 1 0) rfl rfl ?_
 refine TL.callV hF (row_fn 3 2 0) rfl rfl ?_
 refine TL.buildSlice hF rfl (cs:=(([⟨1,1,0⟩,⟨4,1,0⟩,⟨9,1,0⟩,⟨3,2,0⟩]:List Rw).flatMap rwC).toArray) (e:=57) (fun w=>by kernel_rfl) rfl (fun b33=>?_)
 have r33:RRow S3 w3 [[(b33,Obj.cells (([⟨1,1,0⟩,⟨4,1,0⟩,⟨9,1,0⟩,⟨3,2,0⟩]:List Rw).flatMap rwC).toArray 57 (0,0))]] (some ⟨b33,0,none⟩) [⟨1,1,0⟩,⟨4,1,0⟩,⟨9,1,0⟩,⟨3,2,0⟩]:=row_own (e:=57) (by simp)
 refine TL.freeze ([[(b33,Obj.cells (([⟨1,1,0⟩,⟨4,1,0⟩,⟨9,1,0⟩,⟨3,2,0⟩]:List Rw).flatMap rwC).toArray 57 (0,0))]]) rfl (fun S4 w4 hz4=>?_)
 replace hb:=hb.frz hz4
 replace hT:=hT.old hz4
 replace h1:=h1.old hz4
 replace h2:=h2.old hz4
 replace r33:=r33.frz hz4
 refine TL.call hF (Whole_fn hT seW (l:=[⟨1,1,0⟩,⟨4,1,0⟩,⟨9,1,0⟩,⟨3,2,0⟩]) (c:=4) r33 (by decide) (by decide)) rfl rfl ?_
 rintro _ _ ⟨a3,c3,segs,rfl,h3,rfl⟩
 rw [lw3] at h3 ⊢
 refine TL.freeze (segs) rfl (fun S5 w5 hz5=>?_)
 replace hb:=hb.frz hz5
 replace hT:=hT.old hz5
 replace h1:=h1.old hz5
 replace h2:=h2.old hz5
 replace r33:=r33.old hz5
 replace h3:=h3.frz hz5
 refine TL.move hF rfl rfl ?_
 refine TL.extract hF rfl rfl rfl ?_
 refine TL.extract hF rfl rfl rfl ?_
 refine TL.assign hF rfl rfl ?_
 refine TL.assign hF rfl rfl ?_
 refine TL.nil ?_
 refine TQ.then_n ?_
 refine T.seq ?_
 refine T.seq ?_
 refine T.region ?_
 refine TL.move hF rfl rfl ?_
 refine TL.bin hF rfl rfl rfl rfl ?_
 refine TL.move hF rfl rfl ?_
 refine TL.on rfl rfl rfl (by decide) ?_
 refine TL.move hF rfl rfl ?_
 refine TL.on rfl rfl rfl (by decide) ?_
 refine TL.bin hF rfl rfl rfl rfl ?_
 refine TL.pickF hF rfl (by decide) rfl rfl ?_
 refine TL.move hF rfl rfl ?_
 refine TL.on rfl rfl rfl (by decide) ?_
 refine TL.move hF rfl rfl ?_
 refine TL.on rfl rfl rfl (by decide) ?_
 refine TL.bin hF rfl rfl rfl rfl ?_
 refine TL.pickF hF rfl (by decide) rfl rfl ?_
 refine TL.move hF rfl rfl ?_
 refine TL.on rfl rfl rfl (by decide) ?_
 refine TL.move hF rfl rfl ?_
 refine TL.on rfl rfl rfl (by decide) ?_
 refine TL.len hF rfl rfl ?_
 refine TL.on rfl rfl rfl (by decide) ?_
 refine TL.bin hF rfl rfl rfl rfl ?_
 refine TL.pickF hF rfl (by decide) rfl rfl ?_
 refine TL.move hF rfl rfl ?_
 refine TL.on rfl rfl rfl (by decide) ?_
 refine TL.move hF rfl rfl ?_
 refine TL.on rfl rfl rfl (by decide) ?_
 refine TL.indexAddr hF rfl rfl (h1.tad pC_len (by decide) (i:=0) (by decide)) (by decide) (by decide) rfl ?_
 refine TL.on rfl rfl rfl (by decide) ?_
 refine TL.loadA hF (pC (5,15)) rfl rfl ((h1.up (by simp)).tabA pC_len (i:=0) (by decide)) rfl ?_
 refine TL.on rfl rfl rfl (by decide) ?_
 refine TL.build hF rfl (r:=.agg #[.int .i64 5,.int .i64 15]) (fun w=>by kernel_rfl) rfl ?_
 refine TL.on rfl rfl rfl (by decide) ?_
 refine TL.neqA hF rfl rfl (by kernel_rfl) (r:=true) (fun w=>by kernel_rfl) rfl ?_
 refine TL.pickF hF rfl (by decide) rfl rfl ?_
 refine TL.move hF rfl rfl ?_
 refine TL.on rfl rfl rfl (by decide) ?_
 refine TL.move hF rfl rfl ?_
 refine TL.on rfl rfl rfl (by decide) ?_
 refine TL.indexAddr hF rfl rfl (h1.tad pC_len (by decide) (i:=1) (by decide)) (by decide) (by decide) rfl ?_
 refine TL.on rfl rfl rfl (by decide) ?_
 refine TL.loadA hF (pC (10,20)) rfl rfl ((h1.up (by simp)).tabA pC_len (i:=1) (by decide)) rfl ?_
 refine TL.on rfl rfl rfl (by decide) ?_
 refine TL.build hF rfl (r:=.agg #[.int .i64 10,.int .i64 20]) (fun w=>by kernel_rfl) rfl ?_
 refine TL.on rfl rfl rfl (by decide) ?_
 refine TL.neqA hF rfl rfl (by kernel_rfl) (r:=true) (fun w=>by kernel_rfl) rfl ?_
 refine TL.pickF hF rfl (by decide) rfl rfl ?_
 refine TL.move hF rfl rfl ?_
 refine TL.on rfl rfl rfl (by decide) ?_
 refine TL.move hF rfl rfl ?_
 refine TL.on rfl rfl rfl (by decide) ?_
 refine TL.callV hF (outL_fn 0 10 1 2) rfl rfl ?_
 refine TL.on rfl rfl rfl (by decide) ?_
 refine TL.callV hF (outL_fn 5 15 1 5) rfl rfl ?_
 refine TL.on rfl rfl rfl (by decide) ?_
 refine TL.callV hF (outL_fn 5 15 2 7) rfl rfl ?_
 refine TL.on rfl rfl rfl (by decide) ?_
 refine TL.callV hF (outL_fn 10 20 1 5) rfl rfl ?_
 refine TL.on rfl rfl rfl (by decide) ?_
 refine TL.callV hF (outL_fn 10 20 2 7) rfl rfl ?_
 refine TL.on rfl rfl rfl (by decide) ?_
 refine TL.buildSlice hF rfl (cs:=(([⟨0,10,1,2⟩,⟨5,15,1,5⟩,⟨5,15,2,7⟩,⟨10,20,1,5⟩,⟨10,20,2,7⟩]:List Ot).flatMap otC).toArray) (e:=59) (fun w=>by kernel_rfl) rfl (fun b73=>?_)
 refine TL.on rfl rfl rfl (by decide) ?_
 refine TL.callV hF (outs_fn (l:=[⟨0,10,1,2⟩,⟨5,15,1,5⟩,⟨5,15,2,7⟩,⟨10,20,1,5⟩,⟨10,20,2,7⟩]) (m:=[⟨0,10,1,2⟩,⟨5,15,1,5⟩,⟨5,15,2,7⟩,⟨10,20,1,5⟩,⟨10,20,2,7⟩]) (h2.up (by simp)) (row_own (cs:=([⟨0,10,1,2⟩,⟨5,15,1,5⟩,⟨5,15,2,7⟩,⟨10,20,1,5⟩,⟨10,20,2,7⟩]:List Ot).flatMap otC) (e:=59) (b:=b73) (by simp)) (by decide)) rfl rfl ?_
 refine TL.on rfl rfl rfl (by decide) ?_
 refine TL.not hF rfl rfl ?_
 refine TL.pickF hF rfl (by decide) rfl rfl ?_
 refine TL.move hF rfl rfl ?_
 refine TL.on rfl rfl rfl (by decide) ?_
 refine TL.move hF rfl rfl ?_
 refine TL.on rfl rfl rfl (by decide) ?_
 refine TL.callV hF (outL_fn 1 8 1 2) rfl rfl ?_
 refine TL.on rfl rfl rfl (by decide) ?_
 refine TL.callV hF (outL_fn 3 7 2 1) rfl rfl ?_
 refine TL.on rfl rfl rfl (by decide) ?_
 refine TL.callV hF (outL_fn 9 13 1 1) rfl rfl ?_
 refine TL.on rfl rfl rfl (by decide) ?_
 refine TL.buildSlice hF rfl (cs:=(([⟨1,8,1,2⟩,⟨3,7,2,1⟩,⟨9,13,1,1⟩]:List Ot).flatMap otC).toArray) (e:=59) (fun w=>by kernel_rfl) rfl (fun b82=>?_)
 refine TL.on rfl rfl rfl (by decide) ?_
 refine TL.callV hF (outs_fn (l:=[⟨1,8,1,2⟩,⟨3,7,2,1⟩,⟨9,13,1,1⟩]) (m:=[⟨1,8,1,2⟩,⟨3,7,2,1⟩,⟨9,13,1,1⟩]) (h3.up (by simp)) (row_own (cs:=([⟨1,8,1,2⟩,⟨3,7,2,1⟩,⟨9,13,1,1⟩]:List Ot).flatMap otC) (e:=59) (b:=b82) (by simp)) (by decide)) rfl rfl ?_
 refine TL.on rfl rfl rfl (by decide) ?_
 refine TL.not hF rfl rfl ?_
 refine TL.pickF hF rfl (by decide) rfl rfl ?_
 refine TL.nil ?_
 refine TQ.then_n ?_
 refine T.cond_f rfl (by decide) ?_
 refine T.skip ?_
 refine TQ.then_n ?_
 refine T.seq ?_
 refine T.region ?_
 refine TL.callV hF (slides_fn) rfl rfl ?_
 refine TL.callV hF (row_fn 3 1 2) rfl rfl ?_
 refine TL.callV hF (row_fn 12 1 5) rfl rfl ?_
 refine TL.callV hF (row_fn 13 1 1) rfl rfl ?_
 refine TL.callV hF (row_fn 8 1 9) rfl rfl ?_
 refine TL.buildSlice hF rfl (cs:=(([⟨3,1,2⟩,⟨12,1,5⟩,⟨13,1,1⟩,⟨8,1,9⟩]:List Rw).flatMap rwC).toArray) (e:=57) (fun w=>by kernel_rfl) rfl (fun b92=>?_)
 have r92:RRow S5 w5 [[(b92,Obj.cells (([⟨3,1,2⟩,⟨12,1,5⟩,⟨13,1,1⟩,⟨8,1,9⟩]:List Rw).flatMap rwC).toArray 57 (0,0))]] (some ⟨b92,0,none⟩) [⟨3,1,2⟩,⟨12,1,5⟩,⟨13,1,1⟩,⟨8,1,9⟩]:=row_own (e:=57) (by simp)
 refine TL.freeze ([[(b92,Obj.cells (([⟨3,1,2⟩,⟨12,1,5⟩,⟨13,1,1⟩,⟨8,1,9⟩]:List Rw).flatMap rwC).toArray 57 (0,0))]]) rfl (fun S6 w6 hz6=>?_)
 replace hb:=hb.frz hz6
 replace hT:=hT.old hz6
 replace r92:=r92.frz hz6
 refine TL.call hF (Play_fn hT slW (l:=[⟨3,1,2⟩,⟨12,1,5⟩,⟨13,1,1⟩,⟨8,1,9⟩]) (c:=4) r92 (by decide)) rfl rfl ?_
 rintro _ _ ⟨a6,c6,xs,oa6,oc6,segs,rfl,hx6,h6,g6,rfl⟩
 rw [lw6] at hx6 g6 ⊢
 obtain ⟨p60,q60,p61,q61,p62,q62,p63,q63,rfl⟩:=st4 hx6
 refine TL.freeze (segs) rfl (fun S7 w7 hz7=>?_)
 replace hb:=hb.frz hz7
 replace hT:=hT.old hz7
 replace r92:=r92.old hz7
 replace h6:=h6.frz hz7
 replace g6:=g6.frz hz7
 refine TL.move hF rfl rfl ?_
 refine TL.extract hF rfl rfl rfl ?_
 refine TL.extract hF rfl rfl rfl ?_
 refine TL.extract hF rfl rfl rfl ?_
 refine TL.assign hF rfl rfl ?_
 refine TL.assign hF rfl rfl ?_
 refine TL.assign hF rfl rfl ?_
 refine TL.nil ?_
 refine TQ.then_n ?_
 refine T.seq ?_
 refine T.region ?_
 refine TL.callV hF (sessions_fn) rfl rfl ?_
 refine TL.callV hF (row_fn 1 1 0) rfl rfl ?_
 refine TL.callV hF (row_fn 6 1 0) rfl rfl ?_
 refine TL.callV hF (row_fn 4 1 0) rfl rfl ?_
 refine TL.callV hF (row_fn 12 1 0) rfl rfl ?_
 refine TL.buildSlice hF rfl (cs:=(([⟨1,1,0⟩,⟨6,1,0⟩,⟨4,1,0⟩,⟨12,1,0⟩]:List Rw).flatMap rwC).toArray) (e:=57) (fun w=>by kernel_rfl) rfl (fun b103=>?_)
 have r103:RRow S7 w7 [[(b103,Obj.cells (([⟨1,1,0⟩,⟨6,1,0⟩,⟨4,1,0⟩,⟨12,1,0⟩]:List Rw).flatMap rwC).toArray 57 (0,0))]] (some ⟨b103,0,none⟩) [⟨1,1,0⟩,⟨6,1,0⟩,⟨4,1,0⟩,⟨12,1,0⟩]:=row_own (e:=57) (by simp)
 refine TL.freeze ([[(b103,Obj.cells (([⟨1,1,0⟩,⟨6,1,0⟩,⟨4,1,0⟩,⟨12,1,0⟩]:List Rw).flatMap rwC).toArray 57 (0,0))]]) rfl (fun S8 w8 hz8=>?_)
 replace hb:=hb.frz hz8
 replace hT:=hT.old hz8
 replace h6:=h6.old hz8
 replace g6:=g6.old hz8
 replace r103:=r103.frz hz8
 refine TL.call hF (Play_fn hT seW (l:=[⟨1,1,0⟩,⟨6,1,0⟩,⟨4,1,0⟩,⟨12,1,0⟩]) (c:=4) r103 (by decide)) rfl rfl ?_
 rintro _ _ ⟨a7,c7,xs,oa7,oc7,segs,rfl,hx7,h7,g7,rfl⟩
 rw [lw7] at hx7 g7 ⊢
 obtain ⟨p70,q70,p71,q71,p72,q72,p73,q73,rfl⟩:=st4 hx7
 refine TL.freeze (segs) rfl (fun S9 w9 hz9=>?_)
 replace hb:=hb.frz hz9
 replace hT:=hT.old hz9
 replace h6:=h6.old hz9
 replace g6:=g6.old hz9
 replace r103:=r103.old hz9
 replace h7:=h7.frz hz9
 replace g7:=g7.frz hz9
 refine TL.move hF rfl rfl ?_
 refine TL.extract hF rfl rfl rfl ?_
 refine TL.extract hF rfl rfl rfl ?_
 refine TL.extract hF rfl rfl rfl ?_
 refine TL.assign hF rfl rfl ?_
 refine TL.assign hF rfl rfl ?_
 refine TL.assign hF rfl rfl ?_
 refine TL.nil ?_
 refine TQ.then_n ?_
 refine T.seq ?_
 refine T.region ?_
 refine TL.buildSlice hF rfl (cs:=#[.int .i64 3,.int .i64 5,.int .i64 1,.int .i64 (-2147483649),.int .i64 (-2147483649),.int .i64 (-2147483649),.int .i64 (-2147483649)]) (e:=3) (fun w=>by kernel_rfl) rfl (fun b109=>?_)
 have r109:Row S9 w9 [[(b109,Obj.cells #[.int .i64 3,.int .i64 5,.int .i64 1,.int .i64 (-2147483649),.int .i64 (-2147483649),.int .i64 (-2147483649),.int .i64 (-2147483649)] 3 (0,0))]] (some ⟨b109,0,none⟩) (ints [3,5,1,-2147483649,-2147483649,-2147483649,-2147483649]):=row_own (cs:=[.int .i64 3,.int .i64 5,.int .i64 1,.int .i64 (-2147483649),.int .i64 (-2147483649),.int .i64 (-2147483649),.int .i64 (-2147483649)]) (e:=3) (by simp)
 refine TL.freeze ([[(b109,Obj.cells #[.int .i64 3,.int .i64 5,.int .i64 1,.int .i64 (-2147483649),.int .i64 (-2147483649),.int .i64 (-2147483649),.int .i64 (-2147483649)] 3 (0,0))]]) rfl (fun S10 w10 hz10=>?_)
 replace hb:=hb.frz hz10
 replace hT:=hT.old hz10
 replace h6:=h6.old hz10
 replace g6:=g6.old hz10
 replace h7:=h7.old hz10
 replace g7:=g7.old hz10
 replace r109:=r109.frz hz10
 refine TL.call hF (Queue_fn hT (f:=3) (ops:=[3,5,1,-2147483649,-2147483649,-2147483649,-2147483649]) (c:=7) r109 (by decide)) rfl rfl ?_
 rintro _ _ ⟨a8,c8,jo,segs,rfl,h8,_,rfl⟩
 rw [lw8] at h8 ⊢
 refine TL.freeze (segs) rfl (fun S11 w11 hz11=>?_)
 replace hb:=hb.frz hz11
 replace hT:=hT.old hz11
 replace h6:=h6.old hz11
 replace g6:=g6.old hz11
 replace h7:=h7.old hz11
 replace g7:=g7.old hz11
 replace r109:=r109.old hz11
 replace h8:=h8.frz hz11
 refine TL.move hF rfl rfl ?_
 refine TL.extract hF rfl rfl rfl ?_
 refine TL.extract hF rfl rfl rfl ?_
 refine TL.alloc hF rfl (fun b11=>?_)
 refine TL.storeAs hF [.slice a8 7 c8,.int .i64 jo] [.slice a8 7 c8,.int .i64 jo] 0 (cs:=[.slice none 0 0,.int .i64 0]) rfl rfl rfl rfl (by simp [Value.oneCell']) (Nat.le_refl 2) rfl ?_
 refine TL.assign hF rfl rfl ?_
 refine TL.nil ?_
 refine TQ.then_n ?_
 refine T.seq ?_
 refine T.seq ?_
 refine T.region ?_
 refine TL.move hF rfl rfl ?_
 refine TL.bin hF rfl rfl rfl rfl ?_
 refine TL.move hF rfl rfl ?_
 refine TL.on rfl rfl rfl (by simp) ?_
 refine TL.move hF rfl rfl ?_
 refine TL.on rfl rfl rfl (by simp) ?_
 refine TL.bin hF rfl rfl rfl rfl ?_
 refine TL.pickF hF rfl (by simp) rfl rfl ?_
 refine TL.move hF rfl rfl ?_
 refine TL.on rfl rfl rfl (by simp) ?_
 refine TL.move hF rfl rfl ?_
 refine TL.on rfl rfl rfl (by simp) ?_
 refine TL.bin hF rfl rfl rfl rfl ?_
 refine TL.pickF hF rfl (by simp) rfl rfl ?_
 refine TL.move hF rfl rfl ?_
 refine TL.on rfl rfl rfl (by simp) ?_
 refine TL.move hF rfl rfl ?_
 refine TL.on rfl rfl rfl (by simp) ?_
 refine TL.len hF rfl rfl ?_
 refine TL.on rfl rfl rfl (by simp) ?_
 refine TL.bin hF rfl rfl rfl rfl ?_
 refine TL.pickF hF rfl (by simp) rfl rfl ?_
 refine TL.move hF rfl rfl ?_
 refine TL.on rfl rfl rfl (by simp) ?_
 refine TL.move hF rfl rfl ?_
 refine TL.on rfl rfl rfl (by simp) ?_
 refine TL.len hF rfl rfl ?_
 refine TL.on rfl rfl rfl (by simp) ?_
 refine TL.bin hF rfl rfl rfl rfl ?_
 refine TL.pickF hF rfl (by simp) rfl rfl ?_
 refine TL.move hF rfl rfl ?_
 refine TL.on rfl rfl rfl (by simp) ?_
 refine TL.move hF rfl rfl ?_
 refine TL.on rfl rfl rfl (by simp) ?_
 refine TL.callV hF (outL_fn 5 15 1 6) rfl rfl ?_
 refine TL.on rfl rfl rfl (by simp) ?_
 refine TL.callV hF (outL_fn 10 20 1 6) rfl rfl ?_
 refine TL.on rfl rfl rfl (by simp) ?_
 refine TL.buildSlice hF rfl (cs:=(([⟨5,15,1,6⟩,⟨10,20,1,6⟩]:List Ot).flatMap otC).toArray) (e:=59) (fun w=>by kernel_rfl) rfl (fun b137=>?_)
 refine TL.on rfl rfl rfl (by simp) ?_
 refine TL.callV hF (outs_fn (l:=[⟨5,15,1,6⟩,⟨10,20,1,6⟩]) (m:=[⟨5,15,1,6⟩,⟨10,20,1,6⟩]) (g6.up (by simp)) (row_own (cs:=([⟨5,15,1,6⟩,⟨10,20,1,6⟩]:List Ot).flatMap otC) (e:=59) (b:=b137) (by simp)) (by decide)) rfl rfl ?_
 refine TL.on rfl rfl rfl (by simp) ?_
 refine TL.not hF rfl rfl ?_
 refine TL.pickF hF rfl (by simp) rfl rfl ?_
 refine TL.move hF rfl rfl ?_
 refine TL.on rfl rfl rfl (by simp) ?_
 refine TL.move hF rfl rfl ?_
 refine TL.on rfl rfl rfl (by simp) ?_
 refine TL.callV hF (outL_fn 12 16 1 1) rfl rfl ?_
 refine TL.on rfl rfl rfl (by simp) ?_
 refine TL.buildSlice hF rfl (cs:=(([⟨12,16,1,1⟩]:List Ot).flatMap otC).toArray) (e:=59) (fun w=>by kernel_rfl) rfl (fun b144=>?_)
 refine TL.on rfl rfl rfl (by simp) ?_
 refine TL.callV hF (outs_fn (l:=[⟨12,16,1,1⟩]) (m:=[⟨12,16,1,1⟩]) (g7.up (by simp)) (row_own (cs:=([⟨12,16,1,1⟩]:List Ot).flatMap otC) (e:=59) (b:=b144) (by simp)) (by decide)) rfl rfl ?_
 refine TL.on rfl rfl rfl (by simp) ?_
 refine TL.not hF rfl rfl ?_
 refine TL.pickF hF rfl (by simp) rfl rfl ?_
 refine TL.move hF rfl rfl ?_
 refine TL.on rfl rfl rfl (by simp) ?_
 refine TL.fieldAddr hF rfl rfl ?_
 refine TL.on rfl rfl rfl (by simp) ?_
 refine TL.load hF rfl (own_mem (b:=b11) (cs:=#[.slice a8 7 c8,.int .i64 jo]) (e:=45) (fz:=(0,0)) (by simp) rfl) rfl ?_
 refine TL.on rfl rfl rfl (by simp) ?_
 refine TL.buildSlice hF rfl (cs:=#[.int .i64 3,.int .i64 5,.int .i64 5,.int .i64 5,.int .i64 1,.int .i64 (-2147483648),.int .i64 (-2147483648)]) (e:=3) (fun w=>by kernel_rfl) rfl (fun b151=>?_)
 refine TL.on rfl rfl rfl (by simp) ?_
 refine TL.callV hF (Equal_fn (xs:=[3,5,5,5,1,-2147483648,-2147483648]) (ys:=[3,5,5,5,1,-2147483648,-2147483648]) (h8.up (by simp)) (row_own (cs:=ints [3,5,5,5,1,-2147483648,-2147483648]) (e:=3) (b:=b151) (by simp [ints])) (by decide)) rfl rfl ?_
 refine TL.on rfl rfl rfl (by simp) ?_
 refine TL.not hF rfl rfl ?_
 refine TL.pickF hF rfl (by simp) rfl rfl ?_
 refine TL.nil ?_
 refine TQ.then_n ?_
 refine T.cond_f rfl (by decide) ?_
 refine T.skip ?_
 refine TQ.then_n ?_
 refine T.seq ?_
 refine T.drawH 38 mixed ?_
 refine DH.pure (i:=0) [(7,_,none)] rfl rfl rfl rfl ⟨⟨rfl,by kernel_rfl⟩,trivial⟩ (fun _ ext=>TL.move hF rfl rfl TL.fin) ?_
 refine DH.pure (i:=1) [(155,_,some 0)] rfl rfl rfl rfl ⟨⟨rfl,rfl,rfl⟩,trivial⟩ (fun _ ext=>TL.indexAddr hF rfl rfl (h6.row.tad shC_len (by decide) (i:=0) (by simp)) (by simp) (by simp) rfl TL.fin) ?_
 refine DH.pure (i:=2) [(156,_,some 1)] rfl rfl rfl rfl ⟨⟨rfl,rfl,rfl⟩,trivial⟩ (fun _ ext=>TL.fieldAddr hF rfl rfl TL.fin) ?_
 refine DH.read (i:=3) [(157,_,some 2)] rfl rfl rfl rfl ⟨⟨rfl,rfl,rfl⟩,trivial⟩ (fun ext=>TL.load hF rfl ((h6.up (η':=_) (by simp)).row.tabA shC_len (i:=0) (by simp) 0 _ rfl) rfl TL.fin) ?_
 refine DH.pure (i:=4) [(158,_,some 3)] rfl rfl rfl rfl ⟨⟨rfl,rfl,rfl⟩,trivial⟩ (fun _ ext=>TL.len hF rfl rfl TL.fin) ?_
 refine DH.pure (i:=5) [(7,_,none)] rfl rfl rfl rfl ⟨⟨rfl,by kernel_rfl⟩,trivial⟩ (fun _ ext=>TL.move hF rfl rfl TL.fin) ?_
 refine DH.pure (i:=6) [(160,_,some 5)] rfl rfl rfl rfl ⟨⟨rfl,rfl,rfl⟩,trivial⟩ (fun _ ext=>TL.indexAddr hF rfl rfl (h6.row.tad shC_len (by decide) (i:=1) (by simp)) (by simp) (by simp) rfl TL.fin) ?_
 refine DH.pure (i:=7) [(161,_,some 6)] rfl rfl rfl rfl ⟨⟨rfl,rfl,rfl⟩,trivial⟩ (fun _ ext=>TL.fieldAddr hF rfl rfl TL.fin) ?_
 refine DH.read (i:=8) [(162,_,some 7)] rfl rfl rfl rfl ⟨⟨rfl,rfl,rfl⟩,trivial⟩ (fun ext=>TL.load hF rfl ((h6.up (η':=_) (by simp)).row.tabA shC_len (i:=1) (by simp) 0 _ rfl) rfl TL.fin) ?_
 refine DH.pure (i:=9) [(163,_,some 8)] rfl rfl rfl rfl ⟨⟨rfl,rfl,rfl⟩,trivial⟩ (fun _ ext=>TL.len hF rfl rfl TL.fin) ?_
 refine DH.pure (i:=10) [(159,_,some 4),(164,_,some 9)] rfl rfl rfl rfl ⟨⟨rfl,rfl,rfl⟩,⟨rfl,rfl,rfl⟩,trivial⟩ (fun _ ext=>TL.add hF rfl rfl (by simp) (by simp) rfl TL.fin) ?_
 refine DH.pure (i:=11) [(7,_,none)] rfl rfl rfl rfl ⟨⟨rfl,by kernel_rfl⟩,trivial⟩ (fun _ ext=>TL.move hF rfl rfl TL.fin) ?_
 refine DH.pure (i:=12) [(166,_,some 11)] rfl rfl rfl rfl ⟨⟨rfl,rfl,rfl⟩,trivial⟩ (fun _ ext=>TL.indexAddr hF rfl rfl (h6.row.tad shC_len (by decide) (i:=3) (by simp)) (by simp) (by simp) rfl TL.fin) ?_
 refine DH.pure (i:=13) [(167,_,some 12)] rfl rfl rfl rfl ⟨⟨rfl,rfl,rfl⟩,trivial⟩ (fun _ ext=>TL.fieldAddr hF rfl rfl TL.fin) ?_
 refine DH.read (i:=14) [(168,_,some 13)] rfl rfl rfl rfl ⟨⟨rfl,rfl,rfl⟩,trivial⟩ (fun ext=>TL.load hF rfl ((h6.up (η':=_) (by simp)).row.tabA shC_len (i:=3) (by simp) 0 _ rfl) rfl TL.fin) ?_
 refine DH.pure (i:=15) [(169,_,some 14)] rfl rfl rfl rfl ⟨⟨rfl,rfl,rfl⟩,trivial⟩ (fun _ ext=>TL.len hF rfl rfl TL.fin) ?_
 refine DH.pure (i:=16) [(165,_,some 10),(170,_,some 15)] rfl rfl rfl rfl ⟨⟨rfl,rfl,rfl⟩,⟨rfl,rfl,rfl⟩,trivial⟩ (fun _ ext=>TL.add hF rfl rfl (by simp) (by simp) rfl TL.fin) ?_
 refine DH.pure (i:=17) [(171,_,some 16)] rfl rfl rfl rfl ⟨⟨rfl,rfl,rfl⟩,trivial⟩ (fun _ ext=>TL.bin hF rfl rfl rfl rfl TL.fin) ?_
 refine DH.pure (i:=18) [(172,_,some 17)] rfl rfl rfl rfl ⟨⟨rfl,rfl,rfl⟩,trivial⟩ (fun _ ext=>TL.move hF rfl rfl TL.fin) ?_
 refine DH.pure (i:=19) [(7,_,none),(173,_,some 18)] rfl rfl rfl rfl ⟨⟨rfl,by kernel_rfl⟩,⟨rfl,rfl,rfl⟩,trivial⟩ (fun _ ext=>TL.on rfl rfl rfl (by simp) <| TL.move hF rfl rfl TL.fin) ?_
 refine DH.pure (i:=20) [(174,_,some 19),(173,_,some 18)] rfl rfl rfl rfl ⟨⟨rfl,rfl,rfl⟩,⟨rfl,rfl,rfl⟩,trivial⟩ (fun _ ext=>TL.on rfl rfl rfl (by simp) <| TL.indexAddr hF rfl rfl (h6.row.tad shC_len (by decide) (i:=2) (by simp)) (by simp) (by simp) rfl TL.fin) ?_
 refine DH.pure (i:=21) [(175,_,some 20),(173,_,some 18)] rfl rfl rfl rfl ⟨⟨rfl,rfl,rfl⟩,⟨rfl,rfl,rfl⟩,trivial⟩ (fun _ ext=>TL.on rfl rfl rfl (by simp) <| TL.fieldAddr hF rfl rfl TL.fin) ?_
 refine DH.read (i:=22) [(176,_,some 21),(173,_,some 18)] rfl rfl rfl rfl ⟨⟨rfl,rfl,rfl⟩,⟨rfl,rfl,rfl⟩,trivial⟩ (fun ext=>TL.on rfl rfl rfl (by simp) <| TL.load hF rfl ((h6.up (η':=_) (by simp)).row.tabA shC_len (i:=2) (by simp) 1 _ rfl) rfl TL.fin) ?_
 refine DH.pure (i:=23) [(177,_,some 22),(173,_,some 18)] rfl rfl rfl rfl ⟨⟨rfl,rfl,rfl⟩,⟨rfl,rfl,rfl⟩,trivial⟩ (fun _ ext=>TL.on rfl rfl rfl (by simp) <| TL.not hF rfl rfl TL.fin) ?_
 refine DH.pure (i:=24) [(173,_,some 18),(178,_,some 23)] rfl rfl rfl rfl ⟨⟨rfl,rfl,rfl⟩,⟨rfl,rfl,rfl⟩,trivial⟩ (fun _ ext=>TL.pickT hF rfl (by simp) rfl rfl TL.fin) ?_
 refine DH.pure (i:=25) [(179,_,some 24)] rfl rfl rfl rfl ⟨⟨rfl,rfl,rfl⟩,trivial⟩ (fun _ ext=>TL.move hF rfl rfl TL.fin) ?_
 refine DH.pure (i:=26) [(7,_,none),(180,_,some 25)] rfl rfl rfl rfl ⟨⟨rfl,by kernel_rfl⟩,⟨rfl,rfl,rfl⟩,trivial⟩ (fun _ ext=>TL.on rfl rfl rfl (by simp) <| TL.move hF rfl rfl TL.fin) ?_
 refine DH.pure (i:=27) [(181,_,some 26),(180,_,some 25)] rfl rfl rfl rfl ⟨⟨rfl,rfl,rfl⟩,⟨rfl,rfl,rfl⟩,trivial⟩ (fun _ ext=>TL.on rfl rfl rfl (by simp) <| TL.indexAddr hF rfl rfl (h6.row.tad shC_len (by decide) (i:=3) (by simp)) (by simp) (by simp) rfl TL.fin) ?_
 refine DH.pure (i:=28) [(182,_,some 27),(180,_,some 25)] rfl rfl rfl rfl ⟨⟨rfl,rfl,rfl⟩,⟨rfl,rfl,rfl⟩,trivial⟩ (fun _ ext=>TL.on rfl rfl rfl (by simp) <| TL.fieldAddr hF rfl rfl TL.fin) ?_
 refine DH.read (i:=29) [(183,_,some 28),(180,_,some 25)] rfl rfl rfl rfl ⟨⟨rfl,rfl,rfl⟩,⟨rfl,rfl,rfl⟩,trivial⟩ (fun ext=>TL.on rfl rfl rfl (by simp) <| TL.load hF rfl ((h6.up (η':=_) (by simp)).row.tabA shC_len (i:=3) (by simp) 1 _ rfl) rfl TL.fin) ?_
 refine DH.pure (i:=30) [(180,_,some 25),(184,_,some 29)] rfl rfl rfl rfl ⟨⟨rfl,rfl,rfl⟩,⟨rfl,rfl,rfl⟩,trivial⟩ (fun _ ext=>TL.pickT hF rfl (by simp) rfl rfl TL.fin) ?_
 refine DH.pure (i:=31) [(185,_,some 30)] rfl rfl rfl rfl ⟨⟨rfl,rfl,rfl⟩,trivial⟩ (fun _ ext=>TL.move hF rfl rfl TL.fin) ?_
 refine DH.pure (i:=32) [(7,_,none),(186,_,some 31)] rfl rfl rfl rfl ⟨⟨rfl,by kernel_rfl⟩,⟨rfl,rfl,rfl⟩,trivial⟩ (fun _ ext=>TL.on rfl rfl rfl (by simp) <| TL.move hF rfl rfl TL.fin) ?_
 refine DH.pure (i:=33) [(187,_,some 32),(186,_,some 31)] rfl rfl rfl rfl ⟨⟨rfl,rfl,rfl⟩,⟨rfl,rfl,rfl⟩,trivial⟩ (fun _ ext=>TL.on rfl rfl rfl (by simp) <| TL.indexAddr hF rfl rfl (h6.row.tad shC_len (by decide) (i:=2) (by simp)) (by simp) (by simp) rfl TL.fin) ?_
 refine DH.pure (i:=34) [(188,_,some 33),(186,_,some 31)] rfl rfl rfl rfl ⟨⟨rfl,rfl,rfl⟩,⟨rfl,rfl,rfl⟩,trivial⟩ (fun _ ext=>TL.on rfl rfl rfl (by simp) <| TL.fieldAddr hF rfl rfl TL.fin) ?_
 refine DH.read (i:=35) [(189,_,some 34),(186,_,some 31)] rfl rfl rfl rfl ⟨⟨rfl,rfl,rfl⟩,⟨rfl,rfl,rfl⟩,trivial⟩ (fun ext=>TL.on rfl rfl rfl (by simp) <| TL.load hF rfl ((h6.up (η':=_) (by simp)).row.tabA shC_len (i:=2) (by simp) 0 _ rfl) rfl TL.fin) ?_
 refine DH.read (i:=36) [(186,_,some 31)] rfl rfl rfl rfl ⟨⟨rfl,rfl,rfl⟩,trivial⟩ (fun ext=>TL.on rfl rfl rfl (by simp) <| TL.callV hF (outL_fn 0 10 1 2) rfl rfl TL.fin) ?_
 refine DH.k1 (by kernel_rfl) (by kernel_rfl) (by kernel_rfl) (by kernel_rfl) (HBK.mk (h:=37) [35] [(191,_,some 36),(186,_,some 31)] rfl rfl rfl ⟨⟨rfl,rfl,rfl⟩,⟨rfl,rfl,rfl⟩,trivial⟩ (by kernel_rfl) (fun ext=>?_))
 refine TL.on rfl rfl rfl (by simp) ?_
 refine TL.buildSlice hF rfl (cs:=(([⟨0,10,1,2⟩]:List Ot).flatMap otC).toArray) (e:=59) (fun w=>by kernel_rfl) rfl (fun b192=>?_)
 refine TL.finK ⟨⟨_,rfl,_,_,[(189,_,some 34),(186,_,some 31)],rfl,rfl,⟨⟨rfl,rfl,rfl⟩,⟨rfl,rfl,rfl⟩,trivial⟩,fun ext=>TL.on rfl rfl rfl (by simp) <| TL.load hF rfl ((h6.up (η':=_) (by simp)).row.tabA shC_len (i:=2) (by simp) 0 _ rfl) rfl TL.fin⟩,trivial⟩ ?_
 refine DH.done [(192,_),(191,_),(190,_),(189,_),(188,_),(187,_),(186,_),(185,_),(184,_),(183,_),(182,_),(181,_),(180,_),(179,_),(178,_),(177,_),(176,_),(175,_),(174,_),(173,_),(172,_),(171,_),(170,_),(169,_),(168,_),(167,_),(166,_),(165,_),(164,_),(163,_),(162,_),(161,_),(160,_),(159,_),(158,_),(157,_),(156,_),(155,_)] [_,_,_] (by kernel_rfl) (by kernel_rfl) (by kernel_rfl) (by kernel_rfl) rfl rfl ?_
 refine TL.on rfl rfl rfl (by simp) ?_
 refine TL.callV hF (outs_fn (l:=[⟨0,10,1,2⟩]) (m:=[⟨0,10,1,2⟩]) ((h6.item _ (by simp)).up (by simp)) (row_own (cs:=([⟨0,10,1,2⟩]:List Ot).flatMap otC) (e:=59) (b:=b192) (by simp)) (by decide)) rfl rfl ?_
 refine TL.pickT hF rfl (by simp) rfl rfl ?_
 refine TL.assign hF rfl rfl ?_
 refine TL.nil ?_
 refine TQ.then_n ?_
 refine T.seq ?_
 refine T.drawH 35 mixed ?_
 refine DH.pure (i:=0) [(12,_,none)] rfl rfl rfl rfl ⟨⟨rfl,by kernel_rfl⟩,trivial⟩ (fun _ ext=>TL.move hF rfl rfl TL.fin) ?_
 refine DH.pure (i:=1) [(195,_,some 0)] rfl rfl rfl rfl ⟨⟨rfl,rfl,rfl⟩,trivial⟩ (fun _ ext=>TL.move hF rfl rfl TL.fin) ?_
 refine DH.pure (i:=2) [(9,_,none),(196,_,some 1)] rfl rfl rfl rfl ⟨⟨rfl,by kernel_rfl⟩,⟨rfl,rfl,rfl⟩,trivial⟩ (fun _ ext=>TL.on rfl rfl rfl (by simp) <| TL.move hF rfl rfl TL.fin) ?_
 refine DH.pure (i:=3) [(197,_,some 2),(196,_,some 1)] rfl rfl rfl rfl ⟨⟨rfl,rfl,rfl⟩,⟨rfl,rfl,rfl⟩,trivial⟩ (fun _ ext=>TL.on rfl rfl rfl (by simp) <| TL.indexAddr hF rfl rfl (h7.row.tad shC_len (by decide) (i:=0) (by simp)) (by simp) (by simp) rfl TL.fin) ?_
 refine DH.pure (i:=4) [(198,_,some 3),(196,_,some 1)] rfl rfl rfl rfl ⟨⟨rfl,rfl,rfl⟩,⟨rfl,rfl,rfl⟩,trivial⟩ (fun _ ext=>TL.on rfl rfl rfl (by simp) <| TL.fieldAddr hF rfl rfl TL.fin) ?_
 refine DH.read (i:=5) [(199,_,some 4),(196,_,some 1)] rfl rfl rfl rfl ⟨⟨rfl,rfl,rfl⟩,⟨rfl,rfl,rfl⟩,trivial⟩ (fun ext=>TL.on rfl rfl rfl (by simp) <| TL.load hF rfl ((h7.up (η':=_) (by simp)).row.tabA shC_len (i:=0) (by simp) 0 _ rfl) rfl TL.fin) ?_
 refine DH.pure (i:=6) [(200,_,some 5),(196,_,some 1)] rfl rfl rfl rfl ⟨⟨rfl,rfl,rfl⟩,⟨rfl,rfl,rfl⟩,trivial⟩ (fun _ ext=>TL.on rfl rfl rfl (by simp) <| TL.len hF rfl rfl TL.fin) ?_
 refine DH.pure (i:=7) [(9,_,none),(196,_,some 1)] rfl rfl rfl rfl ⟨⟨rfl,by kernel_rfl⟩,⟨rfl,rfl,rfl⟩,trivial⟩ (fun _ ext=>TL.on rfl rfl rfl (by simp) <| TL.move hF rfl rfl TL.fin) ?_
 refine DH.pure (i:=8) [(202,_,some 7),(196,_,some 1)] rfl rfl rfl rfl ⟨⟨rfl,rfl,rfl⟩,⟨rfl,rfl,rfl⟩,trivial⟩ (fun _ ext=>TL.on rfl rfl rfl (by simp) <| TL.indexAddr hF rfl rfl (h7.row.tad shC_len (by decide) (i:=1) (by simp)) (by simp) (by simp) rfl TL.fin) ?_
 refine DH.pure (i:=9) [(203,_,some 8),(196,_,some 1)] rfl rfl rfl rfl ⟨⟨rfl,rfl,rfl⟩,⟨rfl,rfl,rfl⟩,trivial⟩ (fun _ ext=>TL.on rfl rfl rfl (by simp) <| TL.fieldAddr hF rfl rfl TL.fin) ?_
 refine DH.read (i:=10) [(204,_,some 9),(196,_,some 1)] rfl rfl rfl rfl ⟨⟨rfl,rfl,rfl⟩,⟨rfl,rfl,rfl⟩,trivial⟩ (fun ext=>TL.on rfl rfl rfl (by simp) <| TL.load hF rfl ((h7.up (η':=_) (by simp)).row.tabA shC_len (i:=1) (by simp) 0 _ rfl) rfl TL.fin) ?_
 refine DH.pure (i:=11) [(205,_,some 10),(196,_,some 1)] rfl rfl rfl rfl ⟨⟨rfl,rfl,rfl⟩,⟨rfl,rfl,rfl⟩,trivial⟩ (fun _ ext=>TL.on rfl rfl rfl (by simp) <| TL.len hF rfl rfl TL.fin) ?_
 refine DH.pure (i:=12) [(201,_,some 6),(206,_,some 11),(196,_,some 1)] rfl rfl rfl rfl ⟨⟨rfl,rfl,rfl⟩,⟨rfl,rfl,rfl⟩,⟨rfl,rfl,rfl⟩,trivial⟩ (fun _ ext=>TL.on rfl rfl rfl (by simp) <| TL.add hF rfl rfl (by simp) (by simp) rfl TL.fin) ?_
 refine DH.pure (i:=13) [(9,_,none),(196,_,some 1)] rfl rfl rfl rfl ⟨⟨rfl,by kernel_rfl⟩,⟨rfl,rfl,rfl⟩,trivial⟩ (fun _ ext=>TL.on rfl rfl rfl (by simp) <| TL.move hF rfl rfl TL.fin) ?_
 refine DH.pure (i:=14) [(208,_,some 13),(196,_,some 1)] rfl rfl rfl rfl ⟨⟨rfl,rfl,rfl⟩,⟨rfl,rfl,rfl⟩,trivial⟩ (fun _ ext=>TL.on rfl rfl rfl (by simp) <| TL.indexAddr hF rfl rfl (h7.row.tad shC_len (by decide) (i:=2) (by simp)) (by simp) (by simp) rfl TL.fin) ?_
 refine DH.pure (i:=15) [(209,_,some 14),(196,_,some 1)] rfl rfl rfl rfl ⟨⟨rfl,rfl,rfl⟩,⟨rfl,rfl,rfl⟩,trivial⟩ (fun _ ext=>TL.on rfl rfl rfl (by simp) <| TL.fieldAddr hF rfl rfl TL.fin) ?_
 refine DH.read (i:=16) [(210,_,some 15),(196,_,some 1)] rfl rfl rfl rfl ⟨⟨rfl,rfl,rfl⟩,⟨rfl,rfl,rfl⟩,trivial⟩ (fun ext=>TL.on rfl rfl rfl (by simp) <| TL.load hF rfl ((h7.up (η':=_) (by simp)).row.tabA shC_len (i:=2) (by simp) 0 _ rfl) rfl TL.fin) ?_
 refine DH.pure (i:=17) [(211,_,some 16),(196,_,some 1)] rfl rfl rfl rfl ⟨⟨rfl,rfl,rfl⟩,⟨rfl,rfl,rfl⟩,trivial⟩ (fun _ ext=>TL.on rfl rfl rfl (by simp) <| TL.len hF rfl rfl TL.fin) ?_
 refine DH.pure (i:=18) [(207,_,some 12),(212,_,some 17),(196,_,some 1)] rfl rfl rfl rfl ⟨⟨rfl,rfl,rfl⟩,⟨rfl,rfl,rfl⟩,⟨rfl,rfl,rfl⟩,trivial⟩ (fun _ ext=>TL.on rfl rfl rfl (by simp) <| TL.add hF rfl rfl (by simp) (by simp) rfl TL.fin) ?_
 refine DH.pure (i:=19) [(213,_,some 18),(196,_,some 1)] rfl rfl rfl rfl ⟨⟨rfl,rfl,rfl⟩,⟨rfl,rfl,rfl⟩,trivial⟩ (fun _ ext=>TL.on rfl rfl rfl (by simp) <| TL.bin hF rfl rfl rfl rfl TL.fin) ?_
 refine DH.pure (i:=20) [(196,_,some 1),(214,_,some 19)] rfl rfl rfl rfl ⟨⟨rfl,rfl,rfl⟩,⟨rfl,rfl,rfl⟩,trivial⟩ (fun _ ext=>TL.pickT hF rfl (by simp) rfl rfl TL.fin) ?_
 refine DH.pure (i:=21) [(215,_,some 20)] rfl rfl rfl rfl ⟨⟨rfl,rfl,rfl⟩,trivial⟩ (fun _ ext=>TL.move hF rfl rfl TL.fin) ?_
 refine DH.pure (i:=22) [(9,_,none),(216,_,some 21)] rfl rfl rfl rfl ⟨⟨rfl,by kernel_rfl⟩,⟨rfl,rfl,rfl⟩,trivial⟩ (fun _ ext=>TL.on rfl rfl rfl (by simp) <| TL.move hF rfl rfl TL.fin) ?_
 refine DH.pure (i:=23) [(217,_,some 22),(216,_,some 21)] rfl rfl rfl rfl ⟨⟨rfl,rfl,rfl⟩,⟨rfl,rfl,rfl⟩,trivial⟩ (fun _ ext=>TL.on rfl rfl rfl (by simp) <| TL.indexAddr hF rfl rfl (h7.row.tad shC_len (by decide) (i:=3) (by simp)) (by simp) (by simp) rfl TL.fin) ?_
 refine DH.pure (i:=24) [(218,_,some 23),(216,_,some 21)] rfl rfl rfl rfl ⟨⟨rfl,rfl,rfl⟩,⟨rfl,rfl,rfl⟩,trivial⟩ (fun _ ext=>TL.on rfl rfl rfl (by simp) <| TL.fieldAddr hF rfl rfl TL.fin) ?_
 refine DH.read (i:=25) [(219,_,some 24),(216,_,some 21)] rfl rfl rfl rfl ⟨⟨rfl,rfl,rfl⟩,⟨rfl,rfl,rfl⟩,trivial⟩ (fun ext=>TL.on rfl rfl rfl (by simp) <| TL.load hF rfl ((h7.up (η':=_) (by simp)).row.tabA shC_len (i:=3) (by simp) 1 _ rfl) rfl TL.fin) ?_
 refine DH.pure (i:=26) [(220,_,some 25),(216,_,some 21)] rfl rfl rfl rfl ⟨⟨rfl,rfl,rfl⟩,⟨rfl,rfl,rfl⟩,trivial⟩ (fun _ ext=>TL.on rfl rfl rfl (by simp) <| TL.not hF rfl rfl TL.fin) ?_
 refine DH.pure (i:=27) [(216,_,some 21),(221,_,some 26)] rfl rfl rfl rfl ⟨⟨rfl,rfl,rfl⟩,⟨rfl,rfl,rfl⟩,trivial⟩ (fun _ ext=>TL.pickT hF rfl (by simp) rfl rfl TL.fin) ?_
 refine DH.pure (i:=28) [(222,_,some 27)] rfl rfl rfl rfl ⟨⟨rfl,rfl,rfl⟩,trivial⟩ (fun _ ext=>TL.move hF rfl rfl TL.fin) ?_
 refine DH.pure (i:=29) [(9,_,none),(223,_,some 28)] rfl rfl rfl rfl ⟨⟨rfl,by kernel_rfl⟩,⟨rfl,rfl,rfl⟩,trivial⟩ (fun _ ext=>TL.on rfl rfl rfl (by simp) <| TL.move hF rfl rfl TL.fin) ?_
 refine DH.pure (i:=30) [(224,_,some 29),(223,_,some 28)] rfl rfl rfl rfl ⟨⟨rfl,rfl,rfl⟩,⟨rfl,rfl,rfl⟩,trivial⟩ (fun _ ext=>TL.on rfl rfl rfl (by simp) <| TL.indexAddr hF rfl rfl (h7.row.tad shC_len (by decide) (i:=3) (by simp)) (by simp) (by simp) rfl TL.fin) ?_
 refine DH.pure (i:=31) [(225,_,some 30),(223,_,some 28)] rfl rfl rfl rfl ⟨⟨rfl,rfl,rfl⟩,⟨rfl,rfl,rfl⟩,trivial⟩ (fun _ ext=>TL.on rfl rfl rfl (by simp) <| TL.fieldAddr hF rfl rfl TL.fin) ?_
 refine DH.read (i:=32) [(226,_,some 31),(223,_,some 28)] rfl rfl rfl rfl ⟨⟨rfl,rfl,rfl⟩,⟨rfl,rfl,rfl⟩,trivial⟩ (fun ext=>TL.on rfl rfl rfl (by simp) <| TL.load hF rfl ((h7.up (η':=_) (by simp)).row.tabA shC_len (i:=3) (by simp) 0 _ rfl) rfl TL.fin) ?_
 refine DH.read (i:=33) [(223,_,some 28)] rfl rfl rfl rfl ⟨⟨rfl,rfl,rfl⟩,trivial⟩ (fun ext=>TL.on rfl rfl rfl (by simp) <| TL.callV hF (outL_fn 1 10 1 3) rfl rfl TL.fin) ?_
 refine DH.k1 (by kernel_rfl) (by kernel_rfl) (by kernel_rfl) (by kernel_rfl) (HBK.mk (h:=34) [32] [(228,_,some 33),(223,_,some 28)] rfl rfl rfl ⟨⟨rfl,rfl,rfl⟩,⟨rfl,rfl,rfl⟩,trivial⟩ (by kernel_rfl) (fun ext=>?_))
 refine TL.on rfl rfl rfl (by simp) ?_
 refine TL.buildSlice hF rfl (cs:=(([⟨1,10,1,3⟩]:List Ot).flatMap otC).toArray) (e:=59) (fun w=>by kernel_rfl) rfl (fun b229=>?_)
 refine TL.finK ⟨⟨_,rfl,_,_,[(226,_,some 31),(223,_,some 28)],rfl,rfl,⟨⟨rfl,rfl,rfl⟩,⟨rfl,rfl,rfl⟩,trivial⟩,fun ext=>TL.on rfl rfl rfl (by simp) <| TL.load hF rfl ((h7.up (η':=_) (by simp)).row.tabA shC_len (i:=3) (by simp) 0 _ rfl) rfl TL.fin⟩,trivial⟩ ?_
 refine DH.done [(229,_),(228,_),(227,_),(226,_),(225,_),(224,_),(223,_),(222,_),(221,_),(220,_),(219,_),(218,_),(217,_),(216,_),(215,_),(214,_),(213,_),(212,_),(211,_),(210,_),(209,_),(208,_),(207,_),(206,_),(205,_),(204,_),(203,_),(202,_),(201,_),(200,_),(199,_),(198,_),(197,_),(196,_),(195,_)] [_,_,_,_,_,_,_,_] (by kernel_rfl) (by kernel_rfl) (by kernel_rfl) (by kernel_rfl) rfl rfl ?_
 refine TL.on rfl rfl rfl (by simp) ?_
 refine TL.callV hF (outs_fn (l:=[⟨1,10,1,3⟩]) (m:=[⟨1,10,1,3⟩]) ((h7.item _ (by simp)).up (by simp)) (row_own (cs:=([⟨1,10,1,3⟩]:List Ot).flatMap otC) (e:=59) (b:=b229) (by simp)) (by decide)) rfl rfl ?_
 refine TL.pickT hF rfl (by simp) rfl rfl ?_
 refine TL.move hF rfl rfl ?_
 refine TL.on rfl rfl rfl (by decide) ?_
 refine TL.callV hF (slides_fn) rfl rfl ?_
 refine TL.on rfl rfl rfl (by decide) ?_
 refine TL.callV hF (Check_fn hT slW) rfl rfl ?_
 refine TL.on rfl rfl rfl (by decide) ?_
 refine TL.bin hF rfl rfl rfl rfl ?_
 refine TL.pickT hF rfl (by decide) rfl rfl ?_
 refine TL.assign hF rfl rfl ?_
 refine TL.nil ?_
 refine TQ.then_n ?_
 refine T.ret ?_
 exact TQ.retsF [0] _ hb rfl rfl rfl (fun _=>rfl)
end Go.Proofs.YtbajelldegijkaaDoor
/- What the arguments of the laws hold; the table that the program's start lays. -/
namespace Go.Proofs.YtbajelldegijkaaDoor
open Go.Sl Go.ChangeShapes Go.WideShapes Go.ChangeAt Go.Deep Go.RowKit
section
variable {H:Type} {enc:TypeId × Value→H} {W:World}
theorem list3 {l:List Value} (h:l.length=3):∃ a b c,l=[a,b,c]:=by
  match l,h with
  | [a,b,c],_=>exact ⟨a,b,c,rfl⟩
theorem list5 {l:List Value} (h:l.length=5):∃ a b c d e,l=[a,b,c,d,e]:=by
  match l,h with
  | [a,b,c,d,e],_=>exact ⟨a,b,c,d,e,rfl⟩
theorem u3:Tryd.prog.underlying 3=some (.int .i64):=by kernel_rfl
theorem u4:Tryd.prog.underlying 4=some .bool:=by kernel_rfl
theorem uIs:Tryd.prog.underlying 43=some (.slice 3):=by kernel_rfl
theorem uRs:Tryd.prog.underlying 24=some (.slice 57):=by kernel_rfl
theorem uFs:Tryd.prog.underlying 105=some (.array 4 76):=by kernel_rfl
theorem k3:Tryd.prog.cellsOf 3=1:=by kernel_rfl
theorem kRow:Tryd.prog.cellsOf 57=3:=by kernel_rfl
theorem kFold:Tryd.prog.cellsOf 76=3:=by kernel_rfl
theorem ints_arg {fuel : Nat} {v : Value} {y : DataW H × List MemPlace} (h : DataW.trod enc Tryd.prog W 0 (fun _ => true) true fuel 43 [v] = some y) :
    ∃ (a:Option Addr) (l:List Int) (cap:Nat),v = .slice a l.length cap∧Row (Old W) W [] a (ints l)∧l.length<9223372036854775808∧l.length≤cap∧∀ x∈l,-9223372036854775808≤x∧x≤9223372036854775807:=by
  obtain ⟨a,xs,c,e2,hm,hrow,hx⟩:=ints_read uIs u3 k3 h
  obtain ⟨a',len,c',n,cs,e3,hlc,_⟩:=slice_read uIs (by rw [k3]; omega) h
  rw [e2] at e3
  simp only [Value.slice.injEq] at e3
  exact ⟨a,xs,c,e2,hrow,by unfold maxLen at hm; omega,by omega,fun x hxm=>wf_i64 (hx x hxm)⟩
theorem row_read {fuel:Nat} {cs:List Value} {y:DataW H × List MemPlace} (h:DataW.trod enc Tryd.prog W 0 (fun _=>true) true fuel 57 cs=some y):∃ x:Rw,cs=rwC x:=by
  obtain ⟨n,hl,hf⟩:=struct_read (l:=[(3,0),(3,1),(3,2)]) (by kernel_rfl) h
  rw [kRow] at hl
  obtain ⟨c0,c1,c2,rfl⟩:=list3 hl
  obtain ⟨y0,h0⟩:=hf 0 3 0 rfl
  obtain ⟨y1,h1⟩:=hf 1 3 1 rfl
  obtain ⟨y2,h2⟩:=hf 2 3 2 rfl
  rw [k3] at h0 h1 h2
  obtain ⟨z,e0,_,_⟩:=DataW.trod_int u3 h0
  obtain ⟨z1,e1,_,_⟩:=DataW.trod_int u3 h1
  obtain ⟨z2,e2,_,_⟩:=DataW.trod_int u3 h2
  simp only [List.drop_zero,List.take_succ_cons,List.take_zero,List.drop_succ_cons,List.cons.injEq,and_true] at e0 e1 e2
  exact ⟨⟨z,z1,z2⟩,by rw [e0,e1,e2]; rfl⟩
theorem rows_read {fuel : Nat} {v : Value} {y : DataW H × List MemPlace} (h : DataW.trod enc Tryd.prog W 0 (fun _ => true) true fuel 24 [v] = some y) :
    ∃ (a:Option Addr) (l:List Rw) (cap:Nat),v = .slice a l.length cap∧RRow (Old W) W [] a l∧l.length<9223372036854775808∧l.length≤cap:=by
  obtain ⟨a,len,cap,m,cs2,e2,hlc,hm,hlen2,hrow,hel⟩:=slice_read uRs (by rw [kRow]; omega) h
  rw [kRow] at hlen2 hel
  obtain ⟨l,h5,h6,_⟩:=list_read (c:=3) (Q:=fun _:Rw=>True) rwC hlen2 (fun i hi=>by
    obtain ⟨q,hq⟩:=hel i hi
    obtain ⟨k,hk⟩:=row_read hq
    exact ⟨k,hk,trivial⟩)
  exact ⟨a,l,cap,by rw [h5]; exact e2,by show Row _ _ _ _ _; rw [← h6]; exact hrow,by unfold maxLen at hm; omega,by omega⟩
end
theorem Tryd.own:ownKnob Tryd.prog.godebug=none:=by kernel_rfl
theorem Tryd.laidOut:laidOutB Tryd.prog=true:=by kernel_rfl
theorem gFolds : Tryd.prog.globalNamed "deltaworks/window.folds" = some 0 := by kernel_rfl
theorem tFolds:(Tryd.prog.globals[0]?).map (·.type)=some 105:=by kernel_rfl
abbrev laidL : List (String × DataW Unit) := [("deltaworks/window.folds", Rows.laid_deltaworks_window_folds)]
theorem door_met (os:Os) (args:Array Value):laidMetH Tryd.prog laidL ((World.doorLaid Tryd.prog 2000 os).forCall (fun _ _=>0) ⟨#[],args,[]⟩).memory :=
  laidMetH_of_parts3 (fuel:=8) (laidMet_of_run' 8 (by kernel_rfl) (by kernel_rfl)) (by kernel_rfl) (by kernel_rfl)
theorem fold_read {W : World} {m f0 f1 : Nat} {cs : List Value} {y : DataW (List UInt8) × List MemPlace} {a : Int} {c c' : UInt8} {r r' : List UInt8} (hone : ((List.range Tryd.prog.funcs.size).filter fun f => (Tryd.prog.funcs[f]?).any (·.name.toUTF8.data.toList == c :: r)) = [f0])
    (htwo:((List.range Tryd.prog.funcs.size).filter fun f=>(Tryd.prog.funcs[f]?).any (·.name.toUTF8.data.toList == c'::r'))=[f1])
    (h:DataW.trod (funcToken Tryd.prog) Tryd.prog W 0 (fun _=>true) true m 76 cs=some y) (hy:y.1 = .agg [.lit (.int .i64 a),.held (c::r),.held (c'::r')]):cs=[.int .i64 a,.func (.func f0) #[] #[],.func (.func f1) #[] #[]]:=by
  obtain ⟨g0,g1,g2,hu,t0,o0,o1,o2,c1,c2,u0,ps,rs,va,hft,ps2,rs2,va2,hft2⟩:∃ g0 g1 g2:Field,Tryd.prog.underlying 76=some (.struct #[g0,g1,g2])∧Tryd.prog.cellsOf g0.type=1∧g0.offset=0∧g1.offset=1∧g2.offset=2∧Tryd.prog.cellsOf g1.type=1∧Tryd.prog.cellsOf g2.type=1∧Tryd.prog.underlying g0.type=some (.int .i64)∧(∃ ps rs va,Tryd.prog.underlying g1.type=some (.func ps rs va)∧∃ ps2 rs2 va2,Tryd.prog.underlying g2.type=some (.func ps2 rs2 va2)):=by
    rw [show Tryd.prog.underlying 76=Tryd.prog.underlying 75 from by kernel_rfl,Tryd.underlying75]
    exact ⟨_,_,_,rfl,by kernel_rfl,rfl,rfl,rfl,by kernel_rfl,by kernel_rfl,by kernel_rfl,_,_,_,Tryd.underlying73,_,_,_,Tryd.underlying74⟩
  obtain ⟨xs,n,hxf,he,hl,hxl,hf⟩:=DataW.trod_struct hu h
  have hx3:xs.length=3:=hxl
  match xs,hx3,he,hf with
  | [y0,y1,y2],_,he,hf =>
  have h0:=hf 0 g0 rfl
  have h1:=hf 1 g1 rfl
  have h2:=hf 2 g2 rfl
  rw [kFold] at hl
  obtain ⟨d0,d1,d2,rfl⟩:=list3 hl
  subst he
  simp only [List.map_cons,List.map_nil,DataW.agg.injEq,List.cons.injEq,and_true] at hy
  obtain ⟨hy0,hy1,hy2⟩:=hy
  rw [t0,o0] at h0
  rw [c1,o1] at h1
  rw [c2,o2] at h2
  simp only [List.drop_zero,List.take_succ_cons,List.take_zero,List.drop_succ_cons,List.getElem?_cons_zero,List.getElem?_cons_succ] at h0 h1 h2
  obtain ⟨z,e0,e0',_⟩:=DataW.trod_int u0 h0
  rw [e0'] at hy0
  simp only [DataW.lit.injEq,Lit.int.injEq,true_and,List.cons.injEq,and_true] at hy0 e0
  obtain ⟨y1a,q1⟩:=y1
  obtain ⟨y2a,q2⟩:=y2
  simp only at hy1 hy2
  subst hy1
  subst hy2
  rw [e0,hy0,Go.func_of_trod hft hone h1,Go.func_of_trod hft2 htwo h2]
theorem tabs_of_laid {W:World} (h:laidMetH Tryd.prog laidL W):Tabs (Old W) W:=by
  obtain ⟨g,t,cs,fuel,p,hg,ht,hv,hd⟩:=h.funcs (List.mem_singleton.2 rfl)
  obtain rfl:=Option.some.inj (gFolds.symm.trans hg)
  obtain rfl:=Option.some.inj (tFolds.symm.trans ht)
  obtain ⟨xs,m,rfl,hx1,hlen,hn4,hel⟩:=DataW.trod_array uFs hd
  rw [kFold] at hel
  simp only [Prod.mk.injEq,DataW.funcsOut,DataW.funcsOutAll,DataW.agg.injEq] at hx1
  obtain ⟨hx,_⟩:=hx1
  match xs,hn4,hx,hel with
  | [x0,x1,x2,x3],_,hx,hel =>
    simp only [List.map_cons,List.map_nil,List.cons.injEq,and_true] at hx
    obtain ⟨q0,q1,q2,q3⟩:=hx
    have r0:=fold_read (f0:=oneId 0) (f1:=twoId 0) (by kernel_rfl) (by kernel_rfl) (hel 0 (by decide)) q0.symm
    have r1:=fold_read (f0:=oneId 1) (f1:=twoId 1) (by kernel_rfl) (by kernel_rfl) (hel 1 (by decide)) q1.symm
    have r2:=fold_read (f0:=oneId 2) (f1:=twoId 2) (by kernel_rfl) (by kernel_rfl) (hel 2 (by decide)) q2.symm
    have r3:=fold_read (f0:=oneId 3) (f1:=twoId 3) (by kernel_rfl) (by kernel_rfl) (hel 3 (by decide)) q3.symm
    intro o ho j v hj
    have hj3:j<3:=(List.getElem?_eq_some_iff.1 hj).1
    have key:(cs.toList.drop (o*3)).take 3=foldC (o:Int):=by
      have:o=0∨o=1∨o=2∨o=3:=by omega
      rcases this with rfl | rfl | rfl | rfl
      · exact r0
      · exact r1
      · exact r2
      · exact r3
    have hcell:W.cell? ⟨0,o*3+j,none⟩=some v:=by
      rw [← key,List.getElem?_take,if_pos hj3,List.getElem?_drop] at hj
      have:=World.var?_cell hg hv (o*3+j)
      rw [this,← Array.getElem?_toList]; exact hj
    exact .rd (cell_lt hcell).1 hcell
end Go.Proofs.YtbajelldegijkaaDoor
