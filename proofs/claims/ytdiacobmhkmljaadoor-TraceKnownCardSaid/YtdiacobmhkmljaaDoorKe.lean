/- Several texts in one. -/
import Derived.Test.YtdiacobmhkmljaaDoorKd
/- Whether two calls depend on the same; a trace against another one. -/
namespace Go.Proofs.YtdiacobmhkmljaaDoor
open Go.Sl
variable {S:Nat→Prop} {w0:World} {η:Heap}
theorem eqKI (a b:Key) (n:Nat) (w:World):(Op.equalIn (n+2) 25 (kV a) (kV b)).run Tryd.prog w = .ok (decide (a=b)) w:=by
 have hf:Tryd.prog.underlying 25=some (.struct (Tryd.prog.fieldsOf 25)):=by kernel_rfl
 have hs:Tryd.prog.stoodInHeld 25=false:=by kernel_rfl
 obtain ⟨f1, f2, h12, n1, n2, t1, t2, o1, o2⟩ : ∃ f1 f2, (Tryd.prog.fieldsOf 25).toList = [f1, f2] ∧ f1.name ≠ "_" ∧ f2.name ≠ "_" ∧ f1.type = 3 ∧ f2.type = 3 ∧ f1.offset = 0 ∧ f2.offset = 1 := by
  unfold Program.fieldsOf; rw [show Tryd.prog.underlying 25=Tryd.prog.underlying 24 from by kernel_rfl,Tryd.underlying24]
  exact ⟨_,_,rfl,by decide,by decide,rfl,rfl,rfl,rfl⟩
 have hp:∀ (cs:Array Value) (o:Nat) (v:Value),cs[o]?=some v→(part 3 cs o).run Tryd.prog w = .ok v w:=by
  intro cs o v h
  simp [part,Ag.eq (P:=Tryd.prog) (t:=3) (b:=false),h]
 obtain ⟨a1,a2⟩:=a
 obtain ⟨b1,b2⟩:=b
 unfold kV
 rw [run_equalIn_struct w (n+1) 25 _ _ hf hs,h12]
 have hall:AllF Tryd.prog w (n+1) #[.int .i64 a1,.int .i64 a2] #[.int .i64 b1,.int .i64 b2] [f1,f2] [(.int .i64 a1,.int .i64 b1,a1 == b1),(.int .i64 a2,.int .i64 b2,a2 == b2)] :=
  ⟨⟨n1,by rw [o1,t1]; exact hp _ 0 _ rfl,by rw [o1,t1]; exact hp _ 0 _ rfl,by rw [t1]; exact run_equalIn_int w n 3 .i64 .i64 a1 b1 Tryd.underlying3⟩,
   ⟨n2,by rw [o2,t2]; exact hp _ 1 _ rfl,by rw [o2,t2]; exact hp _ 1 _ rfl,by rw [t2]; exact run_equalIn_int w n 3 .i64 .i64 a2 b2 Tryd.underlying3⟩,trivial⟩
 rw [run_eqFields_all _ _ hall]
 by_cases h:a1=b1 <;> by_cases g:a2=b2 <;> simp [h,g]
theorem eqD (a b:Dp) (w:World):(Op.equal 56 (dpV a) (dpV b)).run Tryd.prog w = .ok (decide (a=b)) w:=by
 have hf:Tryd.prog.underlying 56=some (.struct (Tryd.prog.fieldsOf 56)):=by kernel_rfl
 have hs:Tryd.prog.stoodInHeld 56=false:=by kernel_rfl
 obtain ⟨f1, f2, f3, f4, h12, n1, n2, n3, n4, t1, t2, t3, t4, o1, o2, o3, o4⟩ : ∃ f1 f2 f3 f4, (Tryd.prog.fieldsOf 56).toList = [f1, f2, f3, f4] ∧ f1.name ≠ "_" ∧ f2.name ≠ "_" ∧ f3.name ≠ "_" ∧ f4.name ≠ "_" ∧ f1.type = 4 ∧ f2.type = 3 ∧ f3.type = 25 ∧ f4.type = 3 ∧ f1.offset = 0 ∧ f2.offset = 1 ∧ f3.offset = 2 ∧ f4.offset = 4 := by
  unfold Program.fieldsOf; rw [show Tryd.prog.underlying 56=Tryd.prog.underlying 55 from by kernel_rfl,Tryd.underlying55]
  exact ⟨_,_,_,_,rfl,by decide,by decide,by decide,by decide,rfl,rfl,rfl,rfl,rfl,rfl,rfl,rfl⟩
 have hp:∀ (cs:Array Value) (o:Nat) (v:Value),cs[o]?=some v→(part 3 cs o).run Tryd.prog w = .ok v w:=by
  intro cs o v h
  simp [part,Ag.eq (P:=Tryd.prog) (t:=3) (b:=false),h]
 have hpb:∀ (cs:Array Value) (o:Nat) (v:Value),cs[o]?=some v→(part 4 cs o).run Tryd.prog w = .ok v w:=by
  intro cs o v h
  simp [part,Ag.eq (P:=Tryd.prog) (t:=4) (b:=false),h]
 have hpk:∀ (cs:Array Value) (o:Nat),(part 25 cs o).run Tryd.prog w = .ok (.agg (cs.extract o (o+2))) w:=by
  intro cs o
  simp [part,Ag.eq (P:=Tryd.prog) (t:=25) (b:=true),Go.Sl.run_sizeOf (P:=Tryd.prog) (t:=25)]
 obtain ⟨a1,a2,⟨a3,a4⟩,a5⟩:=a
 obtain ⟨b1,b2,⟨b3,b4⟩,b5⟩:=b
 unfold Op.equal
 rw [show Op.maxDepth=9999+1 from rfl,run_equalIn_struct w 9999 56 _ _ hf hs,h12]
 have hall:AllF Tryd.prog w 9999 #[.bool a1,.int .i64 a2,.int .i64 a3,.int .i64 a4,.int .i64 a5] #[.bool b1,.int .i64 b2,.int .i64 b3,.int .i64 b4,.int .i64 b5] [f1,f2,f3,f4] [(.bool a1,.bool b1,a1 == b1),(.int .i64 a2,.int .i64 b2,a2 == b2),(kV (a3,a4),kV (b3,b4),decide ((a3,a4)=(b3,b4))),(.int .i64 a5,.int .i64 b5,a5 == b5)] :=
  ⟨⟨n1,by rw [o1,t1]; exact hpb _ 0 _ rfl,by rw [o1,t1]; exact hpb _ 0 _ rfl,by rw [t1]; exact run_equalIn_bool' w 9998 4 a1 b1 (by kernel_rfl)⟩,
   ⟨n2,by rw [o2,t2]; exact hp _ 1 _ rfl,by rw [o2,t2]; exact hp _ 1 _ rfl,by rw [t2]; exact run_equalIn_int w 9998 3 .i64 .i64 a2 b2 Tryd.underlying3⟩,
   ⟨n3,by rw [o3,t3]; exact hpk _ 2,by rw [o3,t3]; exact hpk _ 2,by rw [t3]; exact eqKI _ _ 9997 w⟩,
   ⟨n4,by rw [o4,t4]; exact hp _ 4 _ rfl,by rw [o4,t4]; exact hp _ 4 _ rfl,by rw [t4]; exact run_equalIn_int w 9998 3 .i64 .i64 a5 b5 Tryd.underlying3⟩,trivial⟩
 rw [run_eqFields_all _ _ hall]
 by_cases h1:a1=b1 <;> by_cases h2:a2=b2 <;> by_cases h3:a3=b3 <;> by_cases h4:a4=b4 <;> by_cases h5:a5=b5 <;> simp [h1,h2,h3,h4,h5]
theorem dp2_1 (d e:Dp):∀ v∈dpC d++dpC e,v.oneCell'=true:=by
 intro v hv
 rcases List.mem_append.1 hv with h | h
 ·exact dpC1 _ v h
 ·exact dpC1 _ v h
theorem pair_at0 {b:Nat} {d d':Dp} {e:TypeId} (h:[(b,Obj.cells (dpC d++dpC d').toArray e (0,0))]∈η):∀ j v,(dpC d)[j]?=some v→At S w0 η ⟨b,0+Int.toNat 0*5+j,none⟩ v:=fun j v hj=>by
 have:=own_listM (S:=S) (w0:=w0) h j v (by rw [List.getElem?_append_left (by exact (List.getElem?_eq_some_iff.1 hj).1)]; exact hj)
 simpa using this
theorem pair_at1 {b:Nat} {d d':Dp} {e:TypeId} (h:[(b,Obj.cells (dpC d++dpC d').toArray e (0,0))]∈η):∀ j v,(dpC d')[j]?=some v→At S w0 η ⟨b,0+Int.toNat 1*5+j,none⟩ v:=fun j v hj=>by
 have:=own_listM (S:=S) (w0:=w0) h (5+j) v (by rw [List.getElem?_append_right (by simp [dpC])]; simpa [dpC] using hj)
 simpa using this
theorem prE_uni:∀ {x y:List Dp} {i:Nat} {e:List Value},(prE x y)[i]?=some e→∃ d d' bb,e=[.agg (dpC d++dpC d').toArray,.bool bb]∧(bb=true→x[i]?=some d∧y[i]?=some d')∧(bb=false→x.length≠y.length)
 | [],[],i,e,h=>by simp [prE] at h
 | [],e::s,i,e',h=>by
  have:i=0:=by have:=(List.getElem?_eq_some_iff.1 h).1; simp [prE] at this; exact this
  subst this
  have h2:=(Option.some.inj h).symm
  exact ⟨⟨false,0,(0,0),0⟩,⟨false,0,(0,0),0⟩,false,h2,fun q=>(by cases q),fun _=>by simp⟩
 | d::r,[],i,e',h=>by
  have:i=0:=by have:=(List.getElem?_eq_some_iff.1 h).1; simp [prE] at this; exact this
  subst this
  have h2:=(Option.some.inj h).symm
  exact ⟨⟨false,0,(0,0),0⟩,⟨false,0,(0,0),0⟩,false,h2,fun q=>(by cases q),fun _=>by simp⟩
 | d::r,f::s,0,e,h=>⟨d,f,true,(Option.some.inj h).symm,fun _=>⟨rfl,rfl⟩,fun q=>(by cases q)⟩
 | d::r,f::s,i+1,e,h=>by
  have h2:(prE r s)[i]?=some e:=by simpa [prE] using h
  obtain ⟨d1,d2,bb,h3,h4,h5⟩:=prE_uni h2
  exact ⟨d1,d2,bb,h3,fun q=>by simpa using h4 q,fun q=>by simpa using h5 q⟩
theorem prE_all {x y:List Dp} (h:∀ j,j<(prE x y).length→∃ d,x[j]?=some d∧y[j]?=some d):x=y:=by
 have hlen:x.length=y.length:=by
  by_cases e:x.length=y.length
  ·exact e
  ·exfalso
   have h1:=prE_one (x:=x) (y:=y) (i:=min x.length y.length) (by omega) (by omega) (by omega) e
   obtain ⟨d,h2,h3⟩:=h (min x.length y.length) (by rw [h1.2]; omega)
   have:=(List.getElem?_eq_some_iff.1 h2).1
   have:=(List.getElem?_eq_some_iff.1 h3).1
   omega
 have hp:=prE_len hlen
 apply List.ext_getElem?
 intro j
 by_cases hj:j<x.length
 ·obtain ⟨d,h2,h3⟩:=h j (by rw [hp]; exact hj)
  rw [h2,h3]
 ·rw [List.getElem?_eq_none (by omega),List.getElem?_eq_none (by omega)]
set_option maxHeartbeats 2000000 in
theorem alike_fn {tx ty : Nat} {x y : PC} (hx : CM S w0 [] tx x) (hy : CM S w0 [] ty y) :
  Rt Tryd.prog 56 [ptr x.b,ptr y.b].toArray S w0 η (fun v η'=>v = .bool (decide (x.nd.deps=y.nd.deps))∧η'=η):=by
 have hF:=open_wide
 refine Rt.ofL (fn:=Tryd.f56) Tryd.func56 rfl rfl ?_
 refine T.seq ?_
 refine T.region ?_
 refine TL.alloc hF rfl (fun b4=>?_)
 refine TL.nil ?_
 refine TQ.then_n ?_
 refine T.scope ?_
 refine T.seq ?_
 refine T.region ?_
 first | refine TL.storeI hF 0 rfl rfl rfl rfl (by first | decide | simp) ?_ | refine TL.storeI hF 1 rfl rfl rfl rfl (by first | decide | simp) ?_ | refine TL.storeI hF 2 rfl rfl rfl rfl (by first | decide | simp) ?_ | refine TL.storeI hF 3 rfl rfl rfl rfl (by first | decide | simp) ?_ | refine TL.storeI hF 4 rfl rfl rfl rfl (by first | decide | simp) ?_ | refine TL.storeI hF 5 rfl rfl rfl rfl (by first | decide | simp) ?_
 refine TL.nil ?_
 refine TQ.then_n ?_
 refine T.seq ?_
 refine T.label ?_
 refine TQ.then_n ?_
 refine T.seq ?_
 refine T.seq ?_
 refine T.region ?_
 refine TL.move hF rfl rfl ?_
 refine TL.move hF rfl rfl ?_
 refine TL.call hF pairs_fn rfl rfl ?_
 rintro _ _ ⟨c1,c2,rfl,rfl⟩
 refine TL.nil ?_
 refine TQ.then_n ?_
 refine T.block ?_
 refine T.rangeFunc (fst:=[]) (cap:=[ptr c1,ptr c2]) rfl (pairs_iter (b1:=c1) (b2:=c2) hx hy) (fun e he=>prE_size he) (by simp) (fun i η1=>η1=[(c2,Obj.cells #[ptr y.b] 89 (0,0))]::[(c1,Obj.cells #[ptr x.b] 89 (0,0))]::[(b4,Obj.cells #[.bool true] 4 (0,0))]::η∧∀ j,j<i→∃ d,x.nd.deps[j]?=some d∧y.nd.deps[j]?=some d) (fun c η1=>c = .exit 0∧η1=[(c2,Obj.cells #[ptr y.b] 89 (0,0))]::[(c1,Obj.cells #[ptr x.b] 89 (0,0))]::[(b4,Obj.cells #[.bool false] 4 (0,0))]::η∧x.nd.deps≠y.nd.deps) ⟨rfl,by omega⟩ ?_ ?_ ?_ ?_
 ·rintro i _ tl ⟨rfl,_⟩
  exact ⟨by simp,by simp⟩
 ·rintro l tl tl' i e _ hie ⟨rfl,hall⟩
  have hF:=open_round l
  obtain ⟨d,d',bb,rfl,hbt,hbf⟩:=prE_uni hie
  refine T.seq ?_
  refine T.region ?_
  refine TL.alloc hF rfl (fun b5=>?_)
  refine TL.storeAs hF (dpC d++dpC d') (dpC d++dpC d') 0 (cs:=[.bool false,.int .i64 0,.int .i64 0,.int .i64 0,.int .i64 0,.bool false,.int .i64 0,.int .i64 0,.int .i64 0,.int .i64 0]) rfl rfl rfl rfl (dp2_1 d d') (Nat.le_refl 10) rfl ?_
  refine TL.nil ?_
  refine TQ.then_n ?_
  refine T.region ?_
  refine TL.assign hF rfl rfl ?_
  refine TL.nil ?_
  refine TQ.swapT ([(b5,Obj.cells (dpC d++dpC d').toArray 139 (0,0))]::[(c2,Obj.cells #[ptr y.b] 89 (0,0))]::[(c1,Obj.cells #[ptr x.b] 89 (0,0))]::[(b4,Obj.cells #[.bool true] 4 (0,0))]::η) rfl ?_
  refine T.block ?_
  refine T.seq ?_
  refine T.region ?_
  refine TL.move hF rfl rfl ?_
  refine TL.move hF rfl rfl ?_
  refine TL.gb (t:=13) rfl (fun g5_13=>?_) (fun g5_13=>?_)
  ·refine TL.on rfl rfl rfl g5_13 ?_
   refine TL.indexAddrA hF rfl rfl (by omega) (by omega) rfl ?_
   refine TL.on rfl rfl rfl g5_13 ?_
   refine TL.loadA hF (dpC d) rfl rfl (pair_at0 (d:=d) (d':=d') (e:=139) (by simp)) rfl ?_
   refine TL.on rfl rfl rfl g5_13 ?_
   refine TL.indexAddrA hF rfl rfl (by omega) (by omega) rfl ?_
   refine TL.on rfl rfl rfl g5_13 ?_
   refine TL.loadA hF (dpC d') rfl rfl (pair_at1 (d:=d) (d':=d') (e:=139) (by simp)) rfl ?_
   refine TL.on rfl rfl rfl g5_13 ?_
   refine TL.eqlA hF rfl rfl (by kernel_rfl) (eqD d d') rfl ?_
   refine TL.pickT hF rfl g5_13 rfl rfl ?_
   refine TL.storeI hF 3 rfl rfl rfl rfl (by simp) ?_
   refine TL.nil ?_
   refine TQ.then_n ?_
   refine T.seq ?_
   refine T.region ?_
   refine TL.load hF rfl (At.own' (i:=3) rfl rfl) rfl ?_
   refine TL.not hF rfl rfl ?_
   refine TL.nil ?_
   refine TQ.then_n ?_
   refine T.cond _ rfl (fun ht21=>?_) (fun ht21=>?_)
   ·refine T.exit ?_
    refine TQ.block_o rfl ?_
    refine TQ.pop ?_
    have hne:d≠d':=by simpa using ht21
    refine TQ.rq_x ([(c2,Obj.cells #[ptr y.b] 89 (0,0))]::[(c1,Obj.cells #[ptr x.b] 89 (0,0))]::[(b4,Obj.cells #[.bool false] 4 (0,0))]::η) ?_ ⟨rfl,rfl,fun q=>?_⟩
    ·rw [decide_eq_false hne]; rfl
    ·have h2:=hbt g5_13
     rw [q] at h2
     exact hne (Option.some.inj (h2.1.symm.trans h2.2))
   ·refine T.skip ?_
    refine TQ.block_n ?_
    refine TQ.pop ?_
    have heq:d=d':=by simpa using ht21
    refine TQ.rq_n ([(c2,Obj.cells #[ptr y.b] 89 (0,0))]::[(c1,Obj.cells #[ptr x.b] 89 (0,0))]::[(b4,Obj.cells #[.bool true] 4 (0,0))]::η) ?_ ⟨rfl,fun j hj=>?_⟩
    ·rw [decide_eq_true heq]; rfl
    ·rcases Nat.lt_or_ge j i with h | h
     ·exact hall j h
     ·have:j=i:=by omega
      subst this
      have h2:=hbt g5_13
      exact ⟨d,h2.1,by rw [heq]; exact h2.2⟩
  ·refine TL.off hF rfl rfl rfl g5_13 rfl ?_
   refine TL.off hF rfl rfl rfl g5_13 rfl ?_
   refine TL.off hF rfl rfl rfl g5_13 rfl ?_
   refine TL.off hF rfl rfl rfl g5_13 rfl ?_
   refine TL.off hF rfl rfl rfl g5_13 rfl ?_
   refine TL.pickF hF rfl g5_13 rfl rfl ?_
   refine TL.storeI hF 3 rfl rfl rfl rfl (by simp) ?_
   refine TL.nil ?_
   refine TQ.then_n ?_
   refine T.seq ?_
   refine T.region ?_
   refine TL.load hF rfl (At.own' (i:=3) rfl rfl) rfl ?_
   refine TL.not hF rfl rfl ?_
   refine TL.nil ?_
   refine TQ.then_n ?_
   refine T.cond _ rfl (fun ht21=>?_) (fun ht21=>?_)
   ·refine T.exit ?_
    refine TQ.block_o rfl ?_
    refine TQ.pop ?_
    exact TQ.rq_x ([(c2,Obj.cells #[ptr y.b] 89 (0,0))]::[(c1,Obj.cells #[ptr x.b] 89 (0,0))]::[(b4,Obj.cells #[.bool false] 4 (0,0))]::η) rfl ⟨rfl,rfl,fun q=>hbf g5_13 (by rw [q])⟩
   ·refine T.skip ?_
    refine TQ.block_n ?_
    exact absurd ht21 (by decide)
 ·rintro mk _ ⟨rfl,hall⟩
  refine TQ.block_n ?_
  refine TQ.then_n ?_
  refine T.seq ?_
  refine T.region ?_
  refine TL.load hF rfl (At.own' (i:=3) rfl rfl) rfl ?_
  refine TL.storeI hF 3 rfl rfl rfl rfl (by simp) ?_
  refine TL.nil ?_
  refine TQ.then_n ?_
  refine T.ret ?_
  refine TQ.scope_r ?_
  refine TQ.mark (i:=0) (.inl rfl) rfl ?_
  refine TQ.retLC1 η rfl rfl (At.own' (i:=3) rfl rfl) (List.Sublist.cons _ (List.Sublist.cons _ (List.Sublist.cons _ (List.sublist_cons_self _ _)))) ⟨?_,rfl⟩
  show Value.bool true=_
  rw [decide_eq_true (prE_all hall)]
 ·rintro mk c _ ⟨rfl,rfl,hne⟩
  refine T.exit ?_
  refine TQ.block_x ?_
  refine TQ.then_n ?_
  refine T.seq ?_
  refine T.region ?_
  refine TL.load hF rfl (At.own' (i:=3) rfl rfl) rfl ?_
  refine TL.storeI hF 3 rfl rfl rfl rfl (by simp) ?_
  refine TL.nil ?_
  refine TQ.then_n ?_
  refine T.ret ?_
  refine TQ.scope_r ?_
  refine TQ.mark (i:=0) (.inl rfl) rfl ?_
  refine TQ.retLC1 η rfl rfl (At.own' (i:=3) rfl rfl) (List.Sublist.cons _ (List.Sublist.cons _ (List.Sublist.cons _ (List.sublist_cons_self _ _)))) ⟨?_,rfl⟩
  show Value.bool false=_
  rw [decide_eq_false hne]
end Go.Proofs.YtdiacobmhkmljaaDoor
/- A trace against another one. -/
namespace Go.Proofs.YtdiacobmhkmljaaDoor
open Go.Sl
variable {S:Nat→Prop} {w0:World} {η:Heap}
/-- A round, with where its lists lie. -/
structure RH where
 r:Rnd
 a1:Option Addr
 c1:Nat
 a2:Option Addr
 c2:Nat
 a3:Option Addr
 c3:Nat
 a4:Option Addr
 c4:Nat
def rhC (x:RH):List Value:=[.int .i64 x.r.word,.slice x.a1 x.r.again.length x.c1,.slice x.a2 x.r.new.length x.c2,.slice x.a3 x.r.kept.length x.c3,.slice x.a4 x.r.dropped.length x.c4]
theorem rhC_len (x:RH):(rhC x).length=5:=rfl
theorem rhC1 (x:RH):∀ v∈rhC x,v.oneCell'=true:=by intro v hv; simp only [rhC,List.mem_cons,List.not_mem_nil,or_false] at hv; rcases hv with rfl | rfl | rfl | rfl | rfl <;> rfl
structure RM (S:Nat→Prop) (w0:World) (η:Heap) (x:RH):Prop where
 r1:KRow S w0 η x.a1 x.r.again
 r2:KRow S w0 η x.a2 x.r.new
 r3:KRow S w0 η x.a3 x.r.kept
 r4:KRow S w0 η x.a4 x.r.dropped
theorem RM.map {S':Nat→Prop} {w1:World} {η':Heap} (hm:∀ a cs,Row S w0 η a cs→Row S' w1 η' a cs) {x:RH} (h:RM S w0 η x):RM S' w1 η' x:=⟨hm _ _ h.r1,hm _ _ h.r2,hm _ _ h.r3,hm _ _ h.r4⟩
theorem RM.up {η':Heap} {x:RH} (h:RM S w0 η x) (hs:∀ s∈η,s∈η'):RM S w0 η' x:=h.map fun _ _ hr=>hr.up hs
theorem findN_perm {l m:List Nd} (hl:(keysN l).Nodup) (h:∀ x,x∈l↔x∈m) (hm:(keysN m).Nodup) (k:Key):findN l k=findN m k:=by
 cases e:findN l k with
 | some x =>
  obtain ⟨h1,rfl⟩:=findN_some e
  exact (findN_mem hm ((h x).1 h1)).symm
 | none =>
  cases e2:findN m k with
  | none=>rfl
  | some x =>
   obtain ⟨h1,rfl⟩:=findN_some e2
   rw [findN_mem hl ((h x).2 h1)] at e; cases e
theorem sort_nodup {l:List Nd} (h:(keysN l).Nodup):(keysN (sortN l)).Nodup:=kup_nodup (sortN_up h)
theorem findN_sort {l:List Nd} (h:(keysN l).Nodup) (k:Key):findN (sortN l) k=findN l k:=findN_perm (sort_nodup h) (fun _=>mem_sortN h) h k
theorem upK_sort {l:List PC} (h:(keysN (pnds l)).Nodup):upK (pkeys l)=keysN (sortN (pnds l)):=by
 rw [pkeys_eq]
 refine kup_ext (upK_up h) (sortN_up h) fun k=>?_
 rw [mem_upK,← hasN_iff,← hasN_iff,hasN_sort h]
theorem sort_len {l:List Nd} (h:(keysN l).Nodup):(sortN l).length=l.length:=by
 have h1:=sub_len (l:=keysN (sortN l)) (m:=keysN l) (sort_nodup h) fun k hk=>by rw [← hasN_iff] at hk ⊢; rwa [hasN_sort h] at hk
 have h2:=sub_len (l:=keysN l) (m:=keysN (sortN l)) h fun k hk=>by rw [← hasN_iff] at hk ⊢; rwa [hasN_sort h]
 simp only [keysN,List.length_map] at h1 h2; omega
/-- A node of what is in order is found. -/
theorem kb_at {l:List PC} (h:(keysN (pnds l)).Nodup) {x:Nd} (hx:x∈sortN (pnds l)):∃ y∈l,y.nd=x∧mget x.key (kb l)=some y.b:=by
 have hf:=findN_mem h ((mem_sortN h).1 hx)
 rcases kb_find (k:=x.key) (l:=l) with ⟨_,h2⟩ | ⟨y,hy,h1,h2,h3⟩
 ·rw [hf] at h2; cases h2
 ·rw [hf] at h2; exact ⟨y,hy,(Option.some.inj h2).symm,h1⟩
theorem keysF_step {l:List Nd} {p:Nd→Bool} {i:Nat} (h:i<l.length):keysN ((l.take (i+1)).filter p)=keysN ((l.take i).filter p)++if p l[i]=true then [l[i].key] else []:=by
 rw [List.take_succ_eq_append_getElem h,List.filter_append]
 unfold keysN
 rw [List.map_append]
 by_cases e:p l[i]=true <;> simp [e]
theorem keysF_yes {l:List Nd} {p:Nd→Bool} {i:Nat} (h:i<l.length) (e:p l[i]=true):keysN ((l.take (i+1)).filter p)=keysN ((l.take i).filter p)++[l[i].key]:=by rw [keysF_step h,if_pos e]
theorem keysF_no {l:List Nd} {p:Nd→Bool} {i:Nat} (h:i<l.length) (e:p l[i]=false):keysN ((l.take (i+1)).filter p)=keysN ((l.take i).filter p):=by rw [keysF_step h,if_neg (by rw [e]; decide),List.append_nil]
theorem keysF_len (l:List Nd) (p:Nd→Bool) (i:Nat):(keysN ((l.take i).filter p)).length≤l.length:=by
 unfold keysN
 rw [List.length_map]
 exact Nat.le_trans (List.length_filter_le _ _) (by rw [List.length_take]; omega)
/-- Where the lists of a round lie, as far as it is made. -/
structure AS where
 i:Nat
 a1:Option Addr
 c1:Nat
 g1:Seg
 a2:Option Addr
 c2:Nat
 g2:Seg
 a3:Option Addr
 c3:Nat
 g3:Seg
abbrev OK (a:Option Addr) (c:Nat) (l:List Key) (g:Seg):Prop:=OSl 25 2 (.slice a l.length c) l.length (l.flatMap kC) g
theorem ok_push {a:Option Addr} {c:Nat} {l:List Key} {k:Key} {g:Seg} (h:OSl 25 2 (.slice a (l.length+1) c) (l.length+1) ((l++[k]).flatMap kC) g):OK a c (l++[k]) g:=by
 have e:(l++[k]).length=l.length+1:=by simp
 show OSl _ _ _ _ _ _
 rw [e]; exact h
set_option maxHeartbeats 4000000 in
theorem against_fn {R : Heap} {tn to' mn mo : Nat} {ln lo : List PC} {esn eso : Array MapEntry} {cn co : Nat} (htn : At S w0 [] ⟨tn, 0 + 2, none⟩ (.map (some mn))) (hto : At S w0 [] ⟨to', 0 + 2, none⟩ (.map (some mo))) (hbn : [(mn, .map esn cn)] ∈ R) (hbo : [(mo, .map eso co)] ∈ R) (hon : MObj kV ptr (kb ln) esn cn) (hoo : MObj kV ptr (kb lo) eso co)
  (hcn:∀ x∈ln,CM S w0 [] tn x) (hco:∀ x∈lo,CM S w0 [] to' x) (hln:ln.length<1073741824) (hlo:lo.length<1073741824) (hsn:∀ x∈ln,SmK x.nd.key) (hso:∀ x∈lo,SmK x.nd.key) (hnn:(keysN (pnds ln)).Nodup) (hno:(keysN (pnds lo)).Nodup) :
  Rt Tryd.prog 39 [ptr tn,ptr to'].toArray S w0 R (fun v η'=>∃ x segs,v = .agg (rhC x).toArray∧x.r=againstS (sortN (pnds lo)) (sortN (pnds ln)) 0∧RM S w0 segs x∧η'=segs++R):=by
 have hF:=open_wide
 refine Rt.of (fn:=Tryd.f39) Tryd.func39 rfl rfl ?_
 refine T.seq ?_
 refine T.region ?_
 refine TL.alloc hF rfl (fun b4=>?_)
 refine TL.nil ?_
 refine TQ.then_n ?_
 refine T.seq ?_
 refine T.seq ?_
 refine T.region ?_
 refine TL.move hF rfl rfl ?_
 refine TL.call hF (keys_fn (R:=[(b4,Obj.cells #[.int .i64 0,.slice none 0 0,.slice none 0 0,.slice none 0 0,.slice none 0 0] 48 (0,0))]::R) (htn.up (by simp)) (List.mem_cons_of_mem _ hbn) hon hln hsn) rfl rfl ?_
 rintro _ _ ⟨ka,kc,segs,rfl,hk,rfl⟩
 refine TL.hperm ([(b4,Obj.cells #[.int .i64 0,.slice none 0 0,.slice none 0 0,.slice none 0 0,.slice none 0 0] 48 (0,0))]::(segs++R)) (List.perm_middle.symm) ?_
 rw [upK_sort hnn] at hk ⊢
 refine TL.len hF rfl rfl ?_
 refine TL.move hF rfl rfl ?_
 refine TL.nil ?_
 refine TQ.then_n ?_
 refine T.block ?_
 have hkl:=sort_len hnn
 have hpl:(pnds ln).length=ln.length:=by simp [pnds]
 refine T.hnil (T.hnil (T.hnil ?_))
 refine T.pick [3,0,1,2] [_,_,_,_] rfl rfl rfl ?_
 refine T.loop (ι:=AS) (fun s=>s.i≤(sortN (pnds ln)).length∧OK s.a1 s.c1 (keysN (((sortN (pnds ln)).take s.i).filter (againB (pnds lo)))) s.g1∧OK s.a2 s.c2 (keysN (((sortN (pnds ln)).take s.i).filter (fun x=>!hasN (pnds lo) x.key))) s.g2∧OK s.a3 s.c3 (keysN (((sortN (pnds ln)).take s.i).filter (keptB (pnds lo)))) s.g3) (fun s=>[(0,ptr tn),(1,ptr to'),(4,ptr b4),(12,.slice ka (keysN (sortN (pnds ln))).length kc),(13,.int .i64 ((keysN (sortN (pnds ln))).length:Int)),(14,.int .i64 (s.i:Int))]) (fun s=>[(b4,Obj.cells #[.int .i64 0,.slice s.a1 (keysN (((sortN (pnds ln)).take s.i).filter (againB (pnds lo)))).length s.c1,.slice s.a2 (keysN (((sortN (pnds ln)).take s.i).filter (fun x=>!hasN (pnds lo) x.key))).length s.c2,.slice s.a3 (keysN (((sortN (pnds ln)).take s.i).filter (keptB (pnds lo)))).length s.c3,.slice none 0 0] 48 (0,0))]::s.g1::s.g2::s.g3::(segs++R)) (fun s=>(sortN (pnds ln)).length - s.i) ⟨0,none,0,[],none,0,[],none,0,[]⟩ ⟨Nat.zero_le _,OSl.nil _ _,OSl.nil _ _,OSl.nil _ _⟩ ⟨rfl,rfl,rfl,rfl,rfl,rfl,trivial⟩ rfl ?_
 rintro ⟨i,a1,c1,g1,a2,c2,g2,a3,c3,g3⟩ ⟨hi,ho1,ho2,ho3⟩
 dsimp only at hi ho1 ho2 ho3
 have q1:=keysF_len (sortN (pnds ln)) (againB (pnds lo)) i
 have q2:=keysF_len (sortN (pnds ln)) (fun x=>!hasN (pnds lo) x.key) i
 have q3:=keysF_len (sortN (pnds ln)) (keptB (pnds lo)) i
 refine T.seq ?_
 refine T.region ?_
 refine TL.bin hF rfl rfl rfl rfl ?_
 refine TL.nil ?_
 refine TQ.then_n ?_
 refine T.seq ?_
 first | refine T.cond_d rfl (fun ht15=>?_) (fun ht15=>?_) | refine T.cond _ rfl (fun ht15=>?_) (fun ht15=>?_)
 ·refine T.skip ?_
  refine TQ.then_n ?_
  refine T.seq ?_
  refine T.block ?_
  refine T.seq ?_
  refine T.region ?_
  have hil:i<(sortN (pnds ln)).length:=by have h:(i:Int)<((keysN (sortN (pnds ln))).length:Int):=ht15; simp only [keysN,List.length_map] at h; omega
  have hik:i<(keysN (sortN (pnds ln))).length:=by simp only [keysN,List.length_map]; exact hil
  have y1:=keysF_yes (l:=(sortN (pnds ln))) (p:=(againB (pnds lo))) hil
  have y2:=keysF_yes (l:=(sortN (pnds ln))) (p:=(fun x=>!hasN (pnds lo) x.key)) hil
  have y3:=keysF_yes (l:=(sortN (pnds ln))) (p:=(keptB (pnds lo))) hil
  have z1:=keysF_no (l:=(sortN (pnds ln))) (p:=(againB (pnds lo))) hil
  have z2:=keysF_no (l:=(sortN (pnds ln))) (p:=(fun x=>!hasN (pnds lo) x.key)) hil
  have z3:=keysF_no (l:=(sortN (pnds ln))) (p:=(keptB (pnds lo))) hil
  obtain ⟨xn,hxn,hxe,hxm⟩:=kb_at hnn (List.getElem_mem hil)
  have hkat:∀ j v,(kC (sortN (pnds ln))[i].key)[j]?=some v→At S w0 segs ⟨(sAt ka (i*2)).block,(sAt ka (i*2)).off+j,none⟩ v:=by
   have:=hk.tabA kC_len (i:=i) hik
   simpa [keysN] using this
  have hkad:∃ ad,ka=some ad∧ad.spot=none:=hk.tad kC_len (by decide) hik
  generalize hxx:(sortN (pnds ln))[i]=x at y1 y2 y3 z1 z2 z3 hxe hxm hkat
  refine TL.indexAddr hF rfl rfl hkad (by omega) (by omega) rfl ?_
  refine TL.loadA hF (kC x.key) rfl rfl (fun j v hj=>(hkat j v hj).up (by intro s hs; simp [hs])) rfl ?_
  refine TL.alloc hF rfl (fun b6=>?_)
  refine TL.storeAI hF (kC x.key) 0 rfl rfl rfl rfl (kC1 _) (by simp [Value.cells,kC]) ?_
  refine TL.nil ?_
  refine TQ.then_n ?_
  refine T.seq ?_
  rcases kb_find (k:=x.key) (l:=lo) with ⟨hq1,hq2⟩ | ⟨xo,hxo,hq1,hq2,hq3⟩
  ·refine T.draw ?_
   refine DR.stepV [_] rfl [(1,_,none)] rfl rfl ⟨⟨rfl,by kernel_rfl⟩,trivial⟩ (fun ext=>TL.move hF rfl rfl TL.fin) ?_
   refine DR.stepV [_,_] rfl [(19,_,some 0)] rfl rfl ⟨⟨rfl,rfl,rfl⟩,trivial⟩ (fun ext=>TL.nilCheck hF rfl rfl TL.fin) ?_
   refine DR.stepV [_,_,_] rfl [(20,_,some 1)] rfl rfl ⟨⟨rfl,rfl,rfl⟩,trivial⟩ (fun ext=>TL.fieldAddr hF rfl rfl TL.fin) ?_
   refine DR.stepV [_,_,_,_] rfl [(21,_,some 2)] rfl rfl ⟨⟨rfl,rfl,rfl⟩,trivial⟩ (fun ext=>TL.load hF rfl (hto.up (by simp)) rfl TL.fin) ?_
   refine DR.stepV [_,_,_,_,_] rfl [(6,_,none)] rfl rfl ⟨⟨rfl,by kernel_rfl⟩,trivial⟩ (fun ext=>TL.loadA hF [.int .i64 x.key.1,.int .i64 x.key.2] rfl rfl (own_list (i:=0) rfl) rfl TL.fin) ?_
   refine DR.stepV [_,_,_,_,_,_] rfl [(22,_,some 3),(23,_,some 4)] rfl rfl ⟨⟨rfl,rfl,rfl⟩,⟨rfl,rfl,rfl⟩,trivial⟩ (fun ext=>TL_lookN hF ptr x.key hq1 rfl rfl (by simp [hbo]) hoo rfl TL.fin) ?_
   refine DR.stepV [_,_,_,_,_,_,_] rfl [(24,_,some 5)] rfl rfl ⟨⟨rfl,rfl,rfl⟩,trivial⟩ (fun ext=>TL.move hF rfl rfl TL.fin) ?_
   refine DR.stepV [_,_,_,_,_,_,_,_] rfl [(18,_,some 6)] rfl rfl ⟨⟨rfl,rfl,rfl⟩,trivial⟩ (fun ext=>TL.extract hF rfl rfl rfl TL.fin) ?_
   refine DR.stepV [_,_,_,_,_,_,_,_,_] rfl [(18,_,some 6)] rfl rfl ⟨⟨rfl,rfl,rfl⟩,trivial⟩ (fun ext=>TL.extract hF rfl rfl rfl TL.fin) ?_
   refine DR.stepV [_,_,_,_,_,_,_,_,_,_] rfl [(25,_,some 7)] rfl rfl ⟨⟨rfl,rfl,rfl⟩,trivial⟩ (fun ext=>TL.assign hF rfl rfl TL.fin) ?_
   refine DR.done [(7,_),(26,_),(25,_),(18,_),(24,_),(23,_),(22,_),(21,_),(20,_),(19,_)] [_] mixed (by kernel_rfl) (by kernel_rfl) (by kernel_rfl) rfl rfl ?_
   refine TL.assign hF rfl rfl ?_
   refine TL.nil ?_
   refine TQ.then_n ?_
   refine T.block ?_
   refine T.seq ?_
   refine T.region ?_
   refine TL.move hF rfl rfl ?_
   refine TL.not hF rfl rfl ?_
   refine TL.assign hF rfl rfl ?_
   refine TL.nil ?_
   refine TQ.then_n ?_
   refine T.cond_t rfl rfl ?_
   refine T.region ?_
   refine TL.fieldAddr hF rfl rfl ?_
   refine TL.load hF rfl (At.own' (i:=1) rfl rfl) rfl ?_
   refine TL.loadA hF [.int .i64 x.key.1,.int .i64 x.key.2] rfl rfl (own_list (i:=0) rfl) rfl ?_
   refine TL.buildSlice hF rfl (cs:=#[.int .i64 x.key.1,.int .i64 x.key.2]) (e:=25) (fun w=>by kernel_rfl) rfl (fun bq=>?_)
   refine TL.append hF 4 rfl rfl rfl ho2 (row_own (cs:=[.int .i64 x.key.1,.int .i64 x.key.2]) (e:=25) (by simp)).src rfl rfl (by simp [Value.oneCell']) (by omega) (by omega) rfl (fun pa pc pg ph=>?_)
   rw [show ([.int .i64 x.key.1,.int .i64 x.key.2]:List Value)=kC x.key from rfl,flat_snoc] at ph
   refine TL.fieldAddr hF rfl rfl ?_
   refine TL.storeI hF 2 rfl rfl rfl rfl (by simp) ?_
   refine TL.nil ?_
   refine TQ.block_n ?_
   refine TQ.block_n ?_
   refine TQ.then_n ?_
   refine T.region ?_
   refine TL.add hF rfl rfl (by dsimp only; omega) (by dsimp only; omega) rfl ?_
   refine TL.move hF rfl rfl ?_
   refine TL.nil ?_
   have hN:(fun x=>!hasN (pnds lo) x.key) x=true:=by simp [hasN,hq2]
   have hA:(againB (pnds lo)) x=false:=by simp [againB,hq2]
   have hK:(keptB (pnds lo)) x=false:=by simp [keptB,hq2]
   refine TQ.pop (TQ.pop ?_)
   refine TQ.round ⟨i+1,a1,c1,g1,pa,pc,pg,a3,c3,g3⟩ ⟨by dsimp only; omega,by dsimp only; rw [z1 hA]; exact ho1,by dsimp only; rw [y2 hN]; exact ok_push ph,by dsimp only; rw [z3 hK]; exact ho3⟩ (by dsimp only; omega) ⟨rfl,rfl,rfl,rfl,rfl,rfl,trivial⟩ ?_
   dsimp only
   rw [z1 hA,y2 hN,z3 hK,List.length_append]
   rfl
  ·refine T.draw ?_
   refine DR.stepV [_] rfl [(1,_,none)] rfl rfl ⟨⟨rfl,by kernel_rfl⟩,trivial⟩ (fun ext=>TL.move hF rfl rfl TL.fin) ?_
   refine DR.stepV [_,_] rfl [(19,_,some 0)] rfl rfl ⟨⟨rfl,rfl,rfl⟩,trivial⟩ (fun ext=>TL.nilCheck hF rfl rfl TL.fin) ?_
   refine DR.stepV [_,_,_] rfl [(20,_,some 1)] rfl rfl ⟨⟨rfl,rfl,rfl⟩,trivial⟩ (fun ext=>TL.fieldAddr hF rfl rfl TL.fin) ?_
   refine DR.stepV [_,_,_,_] rfl [(21,_,some 2)] rfl rfl ⟨⟨rfl,rfl,rfl⟩,trivial⟩ (fun ext=>TL.load hF rfl (hto.up (by simp)) rfl TL.fin) ?_
   refine DR.stepV [_,_,_,_,_] rfl [(6,_,none)] rfl rfl ⟨⟨rfl,by kernel_rfl⟩,trivial⟩ (fun ext=>TL.loadA hF [.int .i64 x.key.1,.int .i64 x.key.2] rfl rfl (own_list (i:=0) rfl) rfl TL.fin) ?_
   refine DR.stepV [_,_,_,_,_,_] rfl [(22,_,some 3),(23,_,some 4)] rfl rfl ⟨⟨rfl,rfl,rfl⟩,⟨rfl,rfl,rfl⟩,trivial⟩ (fun ext=>TL_lookS hF ptr x.key hq1 rfl rfl (by simp [hbo]) hoo rfl TL.fin) ?_
   refine DR.stepV [_,_,_,_,_,_,_] rfl [(24,_,some 5)] rfl rfl ⟨⟨rfl,rfl,rfl⟩,trivial⟩ (fun ext=>TL.move hF rfl rfl TL.fin) ?_
   refine DR.stepV [_,_,_,_,_,_,_,_] rfl [(18,_,some 6)] rfl rfl ⟨⟨rfl,rfl,rfl⟩,trivial⟩ (fun ext=>TL.extract hF rfl rfl rfl TL.fin) ?_
   refine DR.stepV [_,_,_,_,_,_,_,_,_] rfl [(18,_,some 6)] rfl rfl ⟨⟨rfl,rfl,rfl⟩,trivial⟩ (fun ext=>TL.extract hF rfl rfl rfl TL.fin) ?_
   refine DR.stepV [_,_,_,_,_,_,_,_,_,_] rfl [(25,_,some 7)] rfl rfl ⟨⟨rfl,rfl,rfl⟩,trivial⟩ (fun ext=>TL.assign hF rfl rfl TL.fin) ?_
   refine DR.done [(7,_),(26,_),(25,_),(18,_),(24,_),(23,_),(22,_),(21,_),(20,_),(19,_)] [_] mixed (by kernel_rfl) (by kernel_rfl) (by kernel_rfl) rfl rfl ?_
   refine TL.assign hF rfl rfl ?_
   refine TL.nil ?_
   refine TQ.then_n ?_
   refine T.block ?_
   refine T.seq ?_
   refine T.region ?_
   refine TL.move hF rfl rfl ?_
   refine TL.not hF rfl rfl ?_
   refine TL.assign hF rfl rfl ?_
   refine TL.nil ?_
   refine TQ.then_n ?_
   refine T.cond_f rfl rfl ?_
   refine T.seq ?_
   refine T.draw ?_
   refine DR.stepV [_] rfl [(7,_,none)] rfl rfl ⟨⟨rfl,by kernel_rfl⟩,trivial⟩ (fun ext=>TL.move hF rfl rfl TL.fin) ?_
   refine DR.stepV [_,_] rfl [(0,_,none)] rfl rfl ⟨⟨rfl,by kernel_rfl⟩,trivial⟩ (fun ext=>TL.move hF rfl rfl TL.fin) ?_
   refine DR.stepV [_,_,_] rfl [(44,_,some 1)] rfl rfl ⟨⟨rfl,rfl,rfl⟩,trivial⟩ (fun ext=>TL.nilCheck hF rfl rfl TL.fin) ?_
   refine DR.stepV [_,_,_,_] rfl [(45,_,some 2)] rfl rfl ⟨⟨rfl,rfl,rfl⟩,trivial⟩ (fun ext=>TL.fieldAddr hF rfl rfl TL.fin) ?_
   refine DR.stepV [_,_,_,_,_] rfl [(46,_,some 3)] rfl rfl ⟨⟨rfl,rfl,rfl⟩,trivial⟩ (fun ext=>TL.load hF rfl (htn.up (by simp)) rfl TL.fin) ?_
   refine DR.stepV [_,_,_,_,_,_] rfl [(6,_,none)] rfl rfl ⟨⟨rfl,by kernel_rfl⟩,trivial⟩ (fun ext=>TL.loadA hF [.int .i64 x.key.1,.int .i64 x.key.2] rfl rfl (own_list (i:=0) rfl) rfl TL.fin) ?_
   refine DR.stepV [_,_,_,_,_,_,_] rfl [(47,_,some 4),(48,_,some 5)] rfl rfl ⟨⟨rfl,rfl,rfl⟩,⟨rfl,rfl,rfl⟩,trivial⟩ (fun ext=>TL_look1S hF ptr x.key hxm rfl rfl (by simp [hbn]) hon rfl TL.fin) ?_
   refine DR.done [(49,_),(48,_),(47,_),(46,_),(45,_),(44,_),(43,_)] [_,_] mixed (by kernel_rfl) (by kernel_rfl) (by kernel_rfl) rfl rfl ?_
   refine TL.callV hF (alike_fn (hco xo hxo) (hcn xn hxn)) rfl rfl ?_
   refine TL.assign hF rfl rfl ?_
   refine TL.nil ?_
   refine TQ.then_n ?_
   refine T.cond _ rfl (fun ht42=>?_) (fun ht42=>?_)
   ·refine T.region ?_
    refine TL.fieldAddr hF rfl rfl ?_
    refine TL.load hF rfl (At.own' (i:=1) rfl rfl) rfl ?_
    refine TL.loadA hF [.int .i64 x.key.1,.int .i64 x.key.2] rfl rfl (own_list (i:=0) rfl) rfl ?_
    refine TL.buildSlice hF rfl (cs:=#[.int .i64 x.key.1,.int .i64 x.key.2]) (e:=25) (fun w=>by kernel_rfl) rfl (fun bq=>?_)
    refine TL.append hF 5 rfl rfl rfl ho3 (row_own (cs:=[.int .i64 x.key.1,.int .i64 x.key.2]) (e:=25) (by simp)).src rfl rfl (by simp [Value.oneCell']) (by omega) (by omega) rfl (fun pa pc pg ph=>?_)
    rw [show ([.int .i64 x.key.1,.int .i64 x.key.2]:List Value)=kC x.key from rfl,flat_snoc] at ph
    refine TL.fieldAddr hF rfl rfl ?_
    refine TL.storeI hF 2 rfl rfl rfl rfl (by simp) ?_
    refine TL.nil ?_
    refine TQ.block_n ?_
    refine TQ.block_n ?_
    refine TQ.then_n ?_
    refine T.region ?_
    refine TL.add hF rfl rfl (by dsimp only; omega) (by dsimp only; omega) rfl ?_
    refine TL.move hF rfl rfl ?_
    refine TL.nil ?_
    have hN:(fun x=>!hasN (pnds lo) x.key) x=false:=by simp [hasN,hq2]
    have hdd:xo.nd.deps=xn.nd.deps:=by simpa using ht42
    rw [hxe] at hdd
    have hA:(againB (pnds lo)) x=false:=by simp [againB,hq2,hdd]
    have hK:(keptB (pnds lo)) x=true:=by simp [keptB,hq2,hdd]
    refine TQ.pop (TQ.pop ?_)
    refine TQ.round ⟨i+1,a1,c1,g1,a2,c2,g2,pa,pc,pg⟩ ⟨by dsimp only; omega,by dsimp only; rw [z1 hA]; exact ho1,by dsimp only; rw [z2 hN]; exact ho2,by dsimp only; rw [y3 hK]; exact ok_push ph⟩ (by dsimp only; omega) ⟨rfl,rfl,rfl,rfl,rfl,rfl,trivial⟩ ?_
    dsimp only
    rw [z1 hA,z2 hN,y3 hK,List.length_append]
    rfl
   ·refine T.region ?_
    refine TL.fieldAddr hF rfl rfl ?_
    refine TL.load hF rfl (At.own' (i:=1) rfl rfl) rfl ?_
    refine TL.loadA hF [.int .i64 x.key.1,.int .i64 x.key.2] rfl rfl (own_list (i:=0) rfl) rfl ?_
    refine TL.buildSlice hF rfl (cs:=#[.int .i64 x.key.1,.int .i64 x.key.2]) (e:=25) (fun w=>by kernel_rfl) rfl (fun bq=>?_)
    refine TL.append hF 3 rfl rfl rfl ho1 (row_own (cs:=[.int .i64 x.key.1,.int .i64 x.key.2]) (e:=25) (by simp)).src rfl rfl (by simp [Value.oneCell']) (by omega) (by omega) rfl (fun pa pc pg ph=>?_)
    rw [show ([.int .i64 x.key.1,.int .i64 x.key.2]:List Value)=kC x.key from rfl,flat_snoc] at ph
    refine TL.fieldAddr hF rfl rfl ?_
    refine TL.storeI hF 2 rfl rfl rfl rfl (by simp) ?_
    refine TL.nil ?_
    refine TQ.block_n ?_
    refine TQ.block_n ?_
    refine TQ.then_n ?_
    refine T.region ?_
    refine TL.add hF rfl rfl (by dsimp only; omega) (by dsimp only; omega) rfl ?_
    refine TL.move hF rfl rfl ?_
    refine TL.nil ?_
    have hN:(fun x=>!hasN (pnds lo) x.key) x=false:=by simp [hasN,hq2]
    have hdd:¬ xo.nd.deps=xn.nd.deps:=by simpa using ht42
    rw [hxe] at hdd
    have hA:(againB (pnds lo)) x=true:=by simp [againB,hq2,hdd]
    have hK:(keptB (pnds lo)) x=false:=by simp [keptB,hq2,hdd]
    refine TQ.pop (TQ.pop ?_)
    refine TQ.round ⟨i+1,pa,pc,pg,a2,c2,g2,a3,c3,g3⟩ ⟨by dsimp only; omega,by dsimp only; rw [y1 hA]; exact ok_push ph,by dsimp only; rw [z2 hN]; exact ho2,by dsimp only; rw [z3 hK]; exact ho3⟩ (by dsimp only; omega) ⟨rfl,rfl,rfl,rfl,rfl,rfl,trivial⟩ ?_
    dsimp only
    rw [y1 hA,z2 hN,z3 hK,List.length_append]
    rfl
 ·refine T.exit ?_
  refine TQ.then_x ?_
  refine TQ.then_x ?_
  refine TQ.block_x ?_
  refine TQ.then_n ?_
  refine T.seq ?_
  refine T.seq ?_
  refine T.region ?_
  refine TL.move hF rfl rfl ?_
  have hin:i=(sortN (pnds ln)).length:=by have h:¬ (i:Int)<((keysN (sortN (pnds ln))).length:Int):=ht15; simp only [keysN,List.length_map] at h; omega
  subst hin
  refine TL.call hF (keys_fn (R:=[(b4,Obj.cells #[.int .i64 0,.slice a1 (keysN (((sortN (pnds ln)).take (sortN (pnds ln)).length).filter (againB (pnds lo)))).length c1,.slice a2 (keysN (((sortN (pnds ln)).take (sortN (pnds ln)).length).filter (fun x=>!hasN (pnds lo) x.key))).length c2,.slice a3 (keysN (((sortN (pnds ln)).take (sortN (pnds ln)).length).filter (keptB (pnds lo)))).length c3,.slice none 0 0] 48 (0,0))]::g1::g2::g3::(segs++R)) (hto.up (by simp)) (by simp [hbo]) hoo hlo hso) rfl rfl ?_
  rintro _ _ ⟨kb',kc',segs2,rfl,hk2,rfl⟩
  refine TL.hperm ([(b4,Obj.cells #[.int .i64 0,.slice a1 (keysN (((sortN (pnds ln)).take (sortN (pnds ln)).length).filter (againB (pnds lo)))).length c1,.slice a2 (keysN (((sortN (pnds ln)).take (sortN (pnds ln)).length).filter (fun x=>!hasN (pnds lo) x.key))).length c2,.slice a3 (keysN (((sortN (pnds ln)).take (sortN (pnds ln)).length).filter (keptB (pnds lo)))).length c3,.slice none 0 0] 48 (0,0))]::(segs2++(g1::g2::g3::(segs++R)))) (List.perm_middle.symm) ?_
  rw [upK_sort hno] at hk2 ⊢
  refine TL.len hF rfl rfl ?_
  refine TL.move hF rfl rfl ?_
  refine TL.nil ?_
  refine TQ.then_n ?_
  refine T.block ?_
  have hkl2:=sort_len hno
  have hpl2:(pnds lo).length=lo.length:=by simp [pnds]
  refine T.hnil ?_
  refine T.pick [1,0] [_,_] rfl rfl rfl ?_
  refine T.loop (ι:=Nat × Option Addr × Nat × Seg) (fun s=>s.1≤(sortN (pnds lo)).length∧OK s.2.1 s.2.2.1 (keysN (((sortN (pnds lo)).take s.1).filter (fun x=>!hasN (pnds ln) x.key))) s.2.2.2) (fun s=>[(0,ptr tn),(4,ptr b4),(59,.slice kb' (keysN (sortN (pnds lo))).length kc'),(60,.int .i64 ((keysN (sortN (pnds lo))).length:Int)),(61,.int .i64 (s.1:Int))]) (fun s=>[(b4,Obj.cells #[.int .i64 0,.slice a1 (keysN (((sortN (pnds ln)).take (sortN (pnds ln)).length).filter (againB (pnds lo)))).length c1,.slice a2 (keysN (((sortN (pnds ln)).take (sortN (pnds ln)).length).filter (fun x=>!hasN (pnds lo) x.key))).length c2,.slice a3 (keysN (((sortN (pnds ln)).take (sortN (pnds ln)).length).filter (keptB (pnds lo)))).length c3,.slice s.2.1 (keysN (((sortN (pnds lo)).take s.1).filter (fun x=>!hasN (pnds ln) x.key))).length s.2.2.1] 48 (0,0))]::s.2.2.2::(segs2++(g1::g2::g3::(segs++R)))) (fun s=>(sortN (pnds lo)).length - s.1) (0,none,0,[]) ⟨Nat.zero_le _,OSl.nil _ _⟩ ⟨rfl,rfl,rfl,rfl,rfl,trivial⟩ rfl ?_
  rintro ⟨i,a4,c4,g4⟩ ⟨hi2,ho4⟩
  dsimp only at hi2 ho4
  have q4:=keysF_len (sortN (pnds lo)) (fun x=>!hasN (pnds ln) x.key) i
  refine T.seq ?_
  refine T.region ?_
  refine TL.bin hF rfl rfl rfl rfl ?_
  refine TL.nil ?_
  refine TQ.then_n ?_
  refine T.seq ?_
  first | refine T.cond_d rfl (fun ht62=>?_) (fun ht62=>?_) | refine T.cond _ rfl (fun ht62=>?_) (fun ht62=>?_)
  ·refine T.skip ?_
   refine TQ.then_n ?_
   refine T.seq ?_
   refine T.block ?_
   refine T.seq ?_
   refine T.region ?_
   have hil:i<(sortN (pnds lo)).length:=by have h:(i:Int)<((keysN (sortN (pnds lo))).length:Int):=ht62; simp only [keysN,List.length_map] at h; omega
   have hik:i<(keysN (sortN (pnds lo))).length:=by simp only [keysN,List.length_map]; exact hil
   have y1:=keysF_yes (l:=(sortN (pnds lo))) (p:=(fun x=>!hasN (pnds ln) x.key)) hil
   have z1:=keysF_no (l:=(sortN (pnds lo))) (p:=(fun x=>!hasN (pnds ln) x.key)) hil
   have hkat:∀ j v,(kC (sortN (pnds lo))[i].key)[j]?=some v→At S w0 segs2 ⟨(sAt kb' (i*2)).block,(sAt kb' (i*2)).off+j,none⟩ v:=by
    have:=hk2.tabA kC_len (i:=i) hik
    simpa [keysN] using this
   have hkad:∃ ad,kb'=some ad∧ad.spot=none:=hk2.tad kC_len (by decide) hik
   generalize hxx:(sortN (pnds lo))[i]=x at y1 z1 hkat
   refine TL.indexAddr hF rfl rfl hkad (by omega) (by omega) rfl ?_
   refine TL.loadA hF (kC x.key) rfl rfl (fun j v hj=>(hkat j v hj).up (by intro s hs; simp [hs])) rfl ?_
   refine TL.alloc hF rfl (fun b10=>?_)
   refine TL.storeAI hF (kC x.key) 0 rfl rfl rfl rfl (kC1 _) (by simp [Value.cells,kC]) ?_
   refine TL.nil ?_
   refine TQ.then_n ?_
   refine T.seq ?_
   rcases kb_find (k:=x.key) (l:=ln) with ⟨hq1,hq2⟩ | ⟨xo,hxo,hq1,hq2,hq3⟩
   ·refine T.draw ?_
    refine DR.stepV [_] rfl [(0,_,none)] rfl rfl ⟨⟨rfl,by kernel_rfl⟩,trivial⟩ (fun ext=>TL.move hF rfl rfl TL.fin) ?_
    refine DR.stepV [_,_] rfl [(65,_,some 0)] rfl rfl ⟨⟨rfl,rfl,rfl⟩,trivial⟩ (fun ext=>TL.nilCheck hF rfl rfl TL.fin) ?_
    refine DR.stepV [_,_,_] rfl [(66,_,some 1)] rfl rfl ⟨⟨rfl,rfl,rfl⟩,trivial⟩ (fun ext=>TL.fieldAddr hF rfl rfl TL.fin) ?_
    refine DR.stepV [_,_,_,_] rfl [(67,_,some 2)] rfl rfl ⟨⟨rfl,rfl,rfl⟩,trivial⟩ (fun ext=>TL.load hF rfl (htn.up (by simp)) rfl TL.fin) ?_
    refine DR.stepV [_,_,_,_,_] rfl [(10,_,none)] rfl rfl ⟨⟨rfl,by kernel_rfl⟩,trivial⟩ (fun ext=>TL.loadA hF [.int .i64 x.key.1,.int .i64 x.key.2] rfl rfl (own_list (i:=0) rfl) rfl TL.fin) ?_
    refine DR.done [(69,_),(68,_),(67,_),(66,_),(65,_)] [_,_] mixed (by kernel_rfl) (by kernel_rfl) (by kernel_rfl) rfl rfl ?_
    refine TL_look1N hF ptr x.key hq1 rfl rfl (by simp [hbn]) hon rfl ?_
    refine TL.binR hF rfl rfl (r:=.bool true) (fun w=>by kernel_rfl) rfl ?_
    refine TL.nil ?_
    refine TQ.then_n ?_
    refine T.cond_t rfl rfl ?_
    refine T.region ?_
    refine TL.fieldAddr hF rfl rfl ?_
    refine TL.load hF rfl (At.own' (i:=1) rfl rfl) rfl ?_
    refine TL.loadA hF [.int .i64 x.key.1,.int .i64 x.key.2] rfl rfl (own_list (i:=0) rfl) rfl ?_
    refine TL.buildSlice hF rfl (cs:=#[.int .i64 x.key.1,.int .i64 x.key.2]) (e:=25) (fun w=>by kernel_rfl) rfl (fun bq=>?_)
    refine TL.append hF 3 rfl rfl rfl ho4 (row_own (cs:=[.int .i64 x.key.1,.int .i64 x.key.2]) (e:=25) (by simp)).src rfl rfl (by simp [Value.oneCell']) (by omega) (by omega) rfl (fun pa pc pg ph=>?_)
    rw [show ([.int .i64 x.key.1,.int .i64 x.key.2]:List Value)=kC x.key from rfl,flat_snoc] at ph
    refine TL.fieldAddr hF rfl rfl ?_
    refine TL.storeI hF 2 rfl rfl rfl rfl (by simp) ?_
    refine TL.nil ?_
    refine TQ.block_n ?_
    refine TQ.then_n ?_
    refine T.region ?_
    refine TL.add hF rfl rfl (by dsimp only; omega) (by dsimp only; omega) rfl ?_
    refine TL.move hF rfl rfl ?_
    refine TL.nil ?_
    have hD:(fun x=>!hasN (pnds ln) x.key) x=true:=by simp [hasN,hq2]
    refine TQ.pop (TQ.pop ?_)
    refine TQ.round (i+1,pa,pc,pg) ⟨by dsimp only; omega,by dsimp only; rw [y1 hD]; exact ok_push ph⟩ (by dsimp only; omega) ⟨rfl,rfl,rfl,rfl,rfl,trivial⟩ ?_
    dsimp only
    rw [y1 hD,List.length_append]
    rfl
   ·refine T.draw ?_
    refine DR.stepV [_] rfl [(0,_,none)] rfl rfl ⟨⟨rfl,by kernel_rfl⟩,trivial⟩ (fun ext=>TL.move hF rfl rfl TL.fin) ?_
    refine DR.stepV [_,_] rfl [(65,_,some 0)] rfl rfl ⟨⟨rfl,rfl,rfl⟩,trivial⟩ (fun ext=>TL.nilCheck hF rfl rfl TL.fin) ?_
    refine DR.stepV [_,_,_] rfl [(66,_,some 1)] rfl rfl ⟨⟨rfl,rfl,rfl⟩,trivial⟩ (fun ext=>TL.fieldAddr hF rfl rfl TL.fin) ?_
    refine DR.stepV [_,_,_,_] rfl [(67,_,some 2)] rfl rfl ⟨⟨rfl,rfl,rfl⟩,trivial⟩ (fun ext=>TL.load hF rfl (htn.up (by simp)) rfl TL.fin) ?_
    refine DR.stepV [_,_,_,_,_] rfl [(10,_,none)] rfl rfl ⟨⟨rfl,by kernel_rfl⟩,trivial⟩ (fun ext=>TL.loadA hF [.int .i64 x.key.1,.int .i64 x.key.2] rfl rfl (own_list (i:=0) rfl) rfl TL.fin) ?_
    refine DR.done [(69,_),(68,_),(67,_),(66,_),(65,_)] [_,_] mixed (by kernel_rfl) (by kernel_rfl) (by kernel_rfl) rfl rfl ?_
    refine TL_look1S hF ptr x.key hq1 rfl rfl (by simp [hbn]) hon rfl ?_
    refine TL.binR hF rfl rfl (r:=.bool false) (fun w=>by kernel_rfl) rfl ?_
    refine TL.nil ?_
    refine TQ.then_n ?_
    refine T.cond_f rfl rfl ?_
    refine T.skip ?_
    refine TQ.block_n ?_
    refine TQ.then_n ?_
    refine T.region ?_
    refine TL.add hF rfl rfl (by dsimp only; omega) (by dsimp only; omega) rfl ?_
    refine TL.move hF rfl rfl ?_
    refine TL.nil ?_
    have hD:(fun x=>!hasN (pnds ln) x.key) x=false:=by simp [hasN,hq2]
    refine TQ.pop ?_
    refine TQ.round (i+1,a4,c4,g4) ⟨by dsimp only; omega,by dsimp only; rw [z1 hD]; exact ho4⟩ (by dsimp only; omega) ⟨rfl,rfl,rfl,rfl,rfl,trivial⟩ ?_
    dsimp only
    rw [z1 hD]
  ·refine T.exit ?_
   refine TQ.then_x ?_
   refine TQ.then_x ?_
   refine TQ.block_x ?_
   refine TQ.then_n ?_
   refine T.seq ?_
   refine T.region ?_
   have hin2:i=(sortN (pnds lo)).length:=by have h:¬ (i:Int)<((keysN (sortN (pnds lo))).length:Int):=ht62; simp only [keysN,List.length_map] at h; omega
   subst hin2
   refine TL.loadA hF ([.int .i64 0,.slice a1 (keysN (((sortN (pnds ln)).take (sortN (pnds ln)).length).filter (againB (pnds lo)))).length c1,.slice a2 (keysN (((sortN (pnds ln)).take (sortN (pnds ln)).length).filter (fun x=>!hasN (pnds lo) x.key))).length c2,.slice a3 (keysN (((sortN (pnds ln)).take (sortN (pnds ln)).length).filter (keptB (pnds lo)))).length c3,.slice a4 (keysN (((sortN (pnds lo)).take (sortN (pnds lo)).length).filter (fun x=>!hasN (pnds ln) x.key))).length c4]) rfl rfl (own_list (i:=0) rfl) rfl ?_
   refine TL.storeAs hF ([.int .i64 0,.slice a1 (keysN (((sortN (pnds ln)).take (sortN (pnds ln)).length).filter (againB (pnds lo)))).length c1,.slice a2 (keysN (((sortN (pnds ln)).take (sortN (pnds ln)).length).filter (fun x=>!hasN (pnds lo) x.key))).length c2,.slice a3 (keysN (((sortN (pnds ln)).take (sortN (pnds ln)).length).filter (keptB (pnds lo)))).length c3,.slice a4 (keysN (((sortN (pnds lo)).take (sortN (pnds lo)).length).filter (fun x=>!hasN (pnds ln) x.key))).length c4]) ([.int .i64 0,.slice a1 (keysN (((sortN (pnds ln)).take (sortN (pnds ln)).length).filter (againB (pnds lo)))).length c1,.slice a2 (keysN (((sortN (pnds ln)).take (sortN (pnds ln)).length).filter (fun x=>!hasN (pnds lo) x.key))).length c2,.slice a3 (keysN (((sortN (pnds ln)).take (sortN (pnds ln)).length).filter (keptB (pnds lo)))).length c3,.slice a4 (keysN (((sortN (pnds lo)).take (sortN (pnds lo)).length).filter (fun x=>!hasN (pnds ln) x.key))).length c4]) 0 (cs:=[.int .i64 0,.slice a1 (keysN (((sortN (pnds ln)).take (sortN (pnds ln)).length).filter (againB (pnds lo)))).length c1,.slice a2 (keysN (((sortN (pnds ln)).take (sortN (pnds ln)).length).filter (fun x=>!hasN (pnds lo) x.key))).length c2,.slice a3 (keysN (((sortN (pnds ln)).take (sortN (pnds ln)).length).filter (keptB (pnds lo)))).length c3,.slice a4 (keysN (((sortN (pnds lo)).take (sortN (pnds lo)).length).filter (fun x=>!hasN (pnds ln) x.key))).length c4]) rfl rfl rfl rfl (by simp [Value.oneCell']) (Nat.le_refl 5) rfl ?_
   refine TL.nil ?_
   refine TQ.then_n ?_
   refine T.ret ?_
   have hra:againstS (sortN (pnds lo)) (sortN (pnds ln)) 0=⟨0,keysN (((sortN (pnds ln)).take (sortN (pnds ln)).length).filter (againB (pnds lo))),keysN (((sortN (pnds ln)).take (sortN (pnds ln)).length).filter (fun x=>!hasN (pnds lo) x.key)),keysN (((sortN (pnds ln)).take (sortN (pnds ln)).length).filter (keptB (pnds lo))),keysN (((sortN (pnds lo)).take (sortN (pnds lo)).length).filter (fun x=>!hasN (pnds ln) x.key))⟩:=by
    unfold againstS
    rw [List.take_length,List.take_length]
    have e1:∀ k,hasN (sortN (pnds lo)) k=hasN (pnds lo) k:=fun k=>hasN_sort hno
    have e2:∀ k,hasN (sortN (pnds ln)) k=hasN (pnds ln) k:=fun k=>hasN_sort hnn
    have e3:againB (sortN (pnds lo))=(againB (pnds lo)):=funext fun x=>by unfold againB; rw [findN_sort hno]
    have e4:keptB (sortN (pnds lo))=(keptB (pnds lo)):=funext fun x=>by unfold keptB; rw [findN_sort hno]
    rw [e3,e4]; simp only [e1,e2]
   refine TQ.retC ([.int .i64 0,.slice a1 (keysN (((sortN (pnds ln)).take (sortN (pnds ln)).length).filter (againB (pnds lo)))).length c1,.slice a2 (keysN (((sortN (pnds ln)).take (sortN (pnds ln)).length).filter (fun x=>!hasN (pnds lo) x.key))).length c2,.slice a3 (keysN (((sortN (pnds ln)).take (sortN (pnds ln)).length).filter (keptB (pnds lo)))).length c3,.slice a4 (keysN (((sortN (pnds lo)).take (sortN (pnds lo)).length).filter (fun x=>!hasN (pnds ln) x.key))).length c4]) ((g4::segs2++(g1::g2::g3::segs))++R) rfl rfl rfl (own_list (i:=0) rfl) (by simp) ?_
   refine ⟨⟨againstS (sortN (pnds lo)) (sortN (pnds ln)) 0,a1,c1,a2,c2,a3,c3,a4,c4⟩,g4::segs2++(g1::g2::g3::segs),by rw [hra]; rfl,rfl,?_,rfl⟩
   rw [hra]
   exact ⟨OSl.row ho1 (by simp),OSl.row ho2 (by simp),OSl.row ho3 (by simp),OSl.row ho4 (by simp)⟩
end Go.Proofs.YtdiacobmhkmljaaDoor
/- Run, and Distance. -/
namespace Go.Proofs.YtdiacobmhkmljaaDoor
open Go.Sl
variable {S:Nat→Prop} {w0:World} {η:Heap}
theorem ready1 (F:List Ex) (cells:List Int) (top:Key):readyS F [cells] top=askedS F cells top:=by
 unfold readyS askedS
 simp
theorem ready2 (F:List Ex) (a b:List Int) (top:Key):readyS F [a,b] top=(distS F a b top).2:=by
 unfold readyS distS askedS
 by_cases h:checkS F=0
 ·simp only [h,if_true,List.headD_cons,List.all_cons,List.all_nil,Bool.and_true,decide_true]
  cases okCells a <;> cases okTop F top <;> cases okCells b <;> by_cases e:b.length=a.length <;> simp [e]
 ·simp [h]
theorem asked_01 {F:List Ex} {cells:List Int} {top:Key} (h:askedS F cells top=0):checkS F=0∧okCells cells=true∧okTop F top=true:=by
 unfold askedS at h
 by_cases e:checkS F=0
 ·rw [if_pos e] at h
  cases h1:okCells cells <;> cases h2:okTop F top <;> simp [h1,h2] at h
  exact ⟨e,rfl,rfl⟩
 ·rw [if_neg e] at h; cases h
theorem okCells_iff {cells:List Int}:okCells cells=true↔(1≤cells.length∧cells.length≤100)∧∀ n∈cells,isW n=true:=by
 unfold okCells; simp [List.all_eq_true]
theorem scn_of {F:List Ex} {cells:List Int} {top:Key} (h:askedS F cells top=0):Scn F cells∧KOk F (201:Nat) top:=by
 obtain ⟨h1,h2,h3⟩:=asked_01 h
 unfold checkS at h1
 split at h1
 ·rename_i hc
  obtain ⟨⟨c1,c2⟩,c3⟩:=hc
  rw [List.all_eq_true] at c3
  obtain ⟨⟨d1,d2⟩,d3⟩:=okCells_iff.1 h2
  have hat:∀ i,i<F.length→okE F.length (F.getD i noE)=true:=fun i hi=>by
   rw [List.getD_eq_getElem?_getD,List.getElem?_eq_getElem hi]; exact c3 _ (List.getElem_mem hi)
  unfold okTop at h3
  simp only [Bool.and_eq_true,decide_eq_true_eq] at h3
  refine ⟨⟨fun i hi=>?_,fun i hi=>?_,c2,d1,d2,d3⟩,h3.1.1.1,by omega,h3.1.2,by have:=h3.2; show top.2<((201:Nat):Int); omega⟩
  ·have:=hat i hi
   unfold okE at this
   simp only [Bool.and_eq_true] at this
   exact this.2
  ·have:=hat i hi
   unfold okE at this
   simp only [Bool.and_eq_true,decide_eq_true_eq] at this
   exact this.1.2
 ·cases h1
structure TF (F:List Ex) (cells:List Int) (top:Key) (l:List PC):Prop where
 len:l.length<1073741824
 sm:∀ x∈l,SmK x.nd.key
 nd:(keysN (pnds l)).Nodup
 sort:sortN (pnds l)=traceS F cells top
 many:l.length≤1608
theorem tf_of {F:List Ex} {cells:List Int} {top:Key} (hs:Scn F cells) (hk:KOk F (201:Nat) top) {l:List PC} (h:pnds l=(callsS F cells top).1):TF F cells top l:=by
 obtain ⟨k1,k2,k3,k4⟩:=hk
 obtain ⟨hg,_,_⟩:=calls_ok (cells:=cells) hs.right k1 k2 k3 (by omega)
 rw [← h] at hg
 have hl:=good_len hs hg
 have hpl:(pnds l).length=l.length:=by simp [pnds]
 refine ⟨by omega,fun x hx=>?_,hg.nd,by rw [h]; rfl,by omega⟩
 obtain ⟨a1,a2,a3,a4,_⟩:=hg.ok x.nd (List.mem_map_of_mem hx)
 have:=hs.many
 exact ⟨a1,by omega,a3,by omega⟩
theorem Deps.map' {S':Nat→Prop} {w1:World} {η':Heap} {x:NH} (hm:∀ a cs,Row S w0 η a cs→Row S' w1 η' a cs) (h:Deps S w0 η x):Deps S' w1 η' x:=⟨hm _ _ h.row,h.cap,h.len⟩
/-- A call, as a node. -/
def PC.nh (x:PC):NH:=⟨x.nd,x.a,x.c⟩
theorem nds_snoc (l:List NH) (x:NH):nds (l++[x])=nds l++[x.nd]:=by simp [nds]
theorem permF {m:Seg} {X Y:Heap}:(X++(m::Y)).Perm (m::(X++Y)):=List.perm_middle
structure OSN where
 i:Nat
 l:List NH
 a:Option Addr
 c:Nat
 g:Seg
set_option maxHeartbeats 2000000 in
theorem Run_fn {fa ca : Option Addr} {fl : List TE} {fc cc : Nat} {cells : List Int} {top : Key} (hT : Tabs S w0) (hf : Fs S w0 [] fa fl) (hfl : fl.length < 9223372036854775808) (hc : Row S w0 [] ca (ints cells)) (hcl : cells.length < 9223372036854775808) :
  Rt Tryd.prog 12 [.slice fa fl.length fc,.slice ca cells.length cc,kV top].toArray S w0 η (fun v η'=>∃ a cap l segs,v = .tuple #[.slice a l.length cap,.int .i64 (runE (fl.map TE.ex) cells top).2]∧nds l=(runE (fl.map TE.ex) cells top).1∧NL S w0 segs a l∧l.length≤cap∧η'=segs++η):=by
 have hF:=open_wide
 refine Rt.of (fn:=Tryd.f12) Tryd.func12 rfl rfl ?_
 refine T.seq ?_
 refine T.region ?_
 refine TL.box hF rfl rfl (fun b5=>?_)
 refine TL.assign hF rfl rfl ?_
 refine TL.assign hF rfl rfl ?_
 refine TL.nil ?_
 refine TQ.then_n ?_
 refine T.seq ?_
 refine T.seq ?_
 refine T.region ?_
 refine TL.move hF rfl rfl ?_
 refine TL.loadA hF [.int .i64 top.1,.int .i64 top.2] rfl rfl (own_list (i:=0) rfl) rfl ?_
 refine TL.move hF rfl rfl ?_
 refine TL.buildSlice hF rfl (cs:=#[.slice ca cells.length cc]) (e:=22) (fun w=>by kernel_rfl) rfl (fun b17=>?_)
 have hLL:LL S w0 ([(b17,Obj.cells #[.slice ca cells.length cc] 22 (0,0))]::[(b5,Obj.cells #[.int .i64 top.1,.int .i64 top.2] 25 (0,0))]::η) (some ⟨b17,0,none⟩) [(ca,cells,cc)]:=⟨row_own (cs:=[.slice ca cells.length cc]) (e:=22) (by simp),fun p hp=>by
  simp only [List.mem_cons,List.not_mem_nil,or_false] at hp
  subst hp; exact hc.ro⟩
 refine TL.callV hF (ready_fn hT hf hfl hLL (by simp) (fun p hp=>by
  simp only [List.mem_cons,List.not_mem_nil,or_false] at hp
  subst hp; exact hcl)) rfl rfl ?_
 refine TL.assign hF rfl rfl ?_
 refine TL.nil ?_
 refine TQ.then_n ?_
 refine T.seq ?_
 refine T.region ?_
 refine TL.move hF rfl rfl ?_
 refine TL.bin hF rfl rfl rfl rfl ?_
 refine TL.nil ?_
 refine TQ.then_n ?_
 first | refine T.cond_d rfl (fun ht20=>?_) (fun ht20=>?_) | refine T.cond _ rfl (fun ht20=>?_) (fun ht20=>?_)
 ·refine T.seq ?_
  refine T.region ?_
  refine TL.move hF rfl rfl ?_
  refine TL.assign hF rfl rfl ?_
  refine TL.assign hF rfl rfl ?_
  refine TL.nil ?_
  refine TQ.then_n ?_
  refine T.ret ?_
  refine TQ.then_r ?_
  have hne:readyS (fl.map TE.ex) (tx [(ca,cells,cc)]) top≠0:=by simpa using ht20
  have hne2:askedS (fl.map TE.ex) cells top≠0:=by rw [← ready1]; exact hne
  refine TQ.hsub η (List.Sublist.cons _ (List.sublist_cons_self _ _)) ?_
  refine TQ.rets [6,7] _ rfl rfl rfl ?_
  refine ⟨none,0,[],[],?_,?_,NL.none,Nat.le_refl _,rfl⟩
  ·unfold runE; rw [if_neg hne2,← ready1]; rfl
  ·unfold runE; rw [if_neg hne2]; rfl
 ·refine T.skip ?_
  refine TQ.then_n ?_
  refine T.seq ?_
  refine T.region ?_
  refine TL.move hF rfl rfl ?_
  refine TL.move hF rfl rfl ?_
  refine TL.loadA hF [.int .i64 top.1,.int .i64 top.2] rfl rfl (own_list (i:=1) rfl) rfl ?_
  have hask:askedS (fl.map TE.ex) cells top=0:=by
   rw [← ready1]
   have h:readyS (fl.map TE.ex) (tx [(ca,cells,cc)]) top=0:=by simpa using ht20
   exact h
  obtain ⟨hs,hk⟩:=scn_of hask
  refine TL.call hF (traced_fn (ca:=ca) (cc:=cc) hT hf hc hs hk) rfl rfl ?_
  rintro _ _ ⟨tb,mb,m,rfl,htv,rfl⟩
  refine TL.hperm (m.hc++(mseg mb m::([(b17,Obj.cells #[.slice ca cells.length cc] 22 (0,0))]::[(b5,Obj.cells #[.int .i64 top.1,.int .i64 top.2] 25 (0,0))]::η))) permF ?_
  refine TL.freeze2 m.hc rfl (fun S1 w1 hz hback=>?_)
  have htf:=tf_of hs hk htv.mm.nds
  have ht:=hz.get _ _ htv.t
  have hcm:∀ x∈m.l,CM S1 w1 [] tb x:=fun x hx=>(htv.mm.mem x hx).map fun a v h=>hz.get a v h
  refine TL.move hF rfl rfl ?_
  refine TL.extract hF rfl rfl rfl ?_
  refine TL.extract hF rfl rfl rfl ?_
  refine TL.assign hF rfl rfl ?_
  refine TL.assign hF rfl rfl ?_
  refine TL.nil ?_
  refine TQ.then_n ?_
  refine T.seq ?_
  refine T.region ?_
  refine TL.assign hF rfl rfl ?_
  refine TL.nil ?_
  refine TQ.then_n ?_
  refine T.seq ?_
  refine T.seq ?_
  refine T.region ?_
  refine TL.move hF rfl rfl ?_
  refine TL.call hF (keys_fn (R:=mseg mb m::[(b17,Obj.cells #[.slice ca cells.length cc] 22 (0,0))]::[(b5,Obj.cells #[.int .i64 top.1,.int .i64 top.2] 25 (0,0))]::η) (ht.up (by simp)) List.mem_cons_self htv.mm.obj htf.len htf.sm) rfl rfl ?_
  rintro _ _ ⟨ka,kc,segsK,rfl,hkr,rfl⟩
  rw [upK_sort htf.nd,htf.sort] at hkr ⊢
  refine TL.len hF rfl rfl ?_
  refine TL.move hF rfl rfl ?_
  refine TL.nil ?_
  refine TQ.then_n ?_
  refine T.block ?_
  have htl:(traceS (fl.map TE.ex) cells top).length=m.l.length:=by rw [← htf.sort,sort_len htf.nd]; simp [pnds]
  have htm:=htf.many
  refine T.hnil ?_
  refine T.loop (ι:=OSN) (fun s=>s.i≤(traceS (fl.map TE.ex) cells top).length∧nds s.l=(traceS (fl.map TE.ex) cells top).take s.i∧(∀ x∈s.l,Deps S1 w1 [] x)∧OSl 43 4 (.slice s.a s.l.length s.c) s.l.length (s.l.flatMap nhC) s.g) (fun s=>[(6,.slice none 0 0),(7,.int .i64 0),(9,ptr tb),(11,.slice s.a s.l.length s.c),(30,.slice ka (keysN (traceS (fl.map TE.ex) cells top)).length kc),(31,.int .i64 ((keysN (traceS (fl.map TE.ex) cells top)).length:Int)),(32,.int .i64 (s.i:Int))]) (fun s=>s.g::(segsK++(mseg mb m::[(b17,Obj.cells #[.slice ca cells.length cc] 22 (0,0))]::[(b5,Obj.cells #[.int .i64 top.1,.int .i64 top.2] 25 (0,0))]::η))) (fun s=>(traceS (fl.map TE.ex) cells top).length - s.i) ⟨0,[],none,0,[]⟩ ⟨Nat.zero_le _,rfl,by simp,OSl.nil _ _⟩ ⟨rfl,rfl,rfl,rfl,rfl,rfl,rfl,trivial⟩ rfl ?_
  rintro ⟨i,l,oa,oc,og⟩ ⟨hi,hnl,hdl,ho⟩
  dsimp only at hi hnl hdl ho
  have hll:l.length=i:=by
   have:=congrArg List.length hnl
   rw [nds_len,List.length_take] at this; omega
  refine T.seq ?_
  refine T.region ?_
  refine TL.bin hF rfl rfl rfl rfl ?_
  refine TL.nil ?_
  refine TQ.then_n ?_
  refine T.seq ?_
  first | refine T.cond_d rfl (fun ht33=>?_) (fun ht33=>?_) | refine T.cond _ rfl (fun ht33=>?_) (fun ht33=>?_)
  ·refine T.skip ?_
   refine TQ.then_n ?_
   refine T.seq ?_
   refine T.block ?_
   refine T.seq ?_
   refine T.region ?_
   have hil:i<(traceS (fl.map TE.ex) cells top).length:=by have h:(i:Int)<((keysN (traceS (fl.map TE.ex) cells top)).length:Int):=ht33; simp only [keysN,List.length_map] at h; omega
   have hik:i<(keysN (traceS (fl.map TE.ex) cells top)).length:=by simp only [keysN,List.length_map]; exact hil
   have hkat:∀ j v,(kC (traceS (fl.map TE.ex) cells top)[i].key)[j]?=some v→At S1 w1 segsK ⟨(sAt ka (i*2)).block,(sAt ka (i*2)).off+j,none⟩ v:=by
    have:=hkr.tabA kC_len (i:=i) hik
    simpa [keysN] using this
   have hkad:∃ ad,ka=some ad∧ad.spot=none:=hkr.tad kC_len (by decide) hik
   have hst:(traceS (fl.map TE.ex) cells top).take (i+1)=(traceS (fl.map TE.ex) cells top).take i++[(traceS (fl.map TE.ex) cells top)[i]]:=List.take_succ_eq_append_getElem hil
   obtain ⟨xn,hxn,hxe,hxm⟩:=kb_at (l:=m.l) htf.nd (x:=(traceS (fl.map TE.ex) cells top)[i]) (by rw [htf.sort]; exact List.getElem_mem hil)
   generalize hxx:(traceS (fl.map TE.ex) cells top)[i]=x at hkat hst hxe hxm
   refine TL.indexAddr hF rfl rfl hkad (by dsimp only; omega) (by dsimp only; omega) rfl ?_
   refine TL.loadA hF (kC x.key) rfl rfl (fun j v hj=>(hkat j v hj).up (by intro s hs; simp [hs])) rfl ?_
   refine TL.alloc hF rfl (fun b13=>?_)
   refine TL.storeAI hF (kC x.key) 0 rfl rfl rfl rfl (kC1 _) (by simp [Value.cells,kC]) ?_
   refine TL.nil ?_
   refine TQ.then_n ?_
   refine T.drawH 11 mixed ?_
   refine DH.pure (i:=0) [(11,_,none)] rfl rfl rfl rfl ⟨⟨rfl,by kernel_rfl⟩,trivial⟩ (fun _ ext=>TL.move hF rfl rfl TL.fin) ?_
   refine DH.pure (i:=1) [(9,_,none)] rfl rfl rfl rfl ⟨⟨rfl,by kernel_rfl⟩,trivial⟩ (fun _ ext=>TL.move hF rfl rfl TL.fin) ?_
   refine DH.pure (i:=2) [(37,_,some 1)] rfl rfl rfl rfl ⟨⟨rfl,rfl,rfl⟩,trivial⟩ (fun _ ext=>TL.nilCheck hF rfl rfl TL.fin) ?_
   refine DH.pure (i:=3) [(38,_,some 2)] rfl rfl rfl rfl ⟨⟨rfl,rfl,rfl⟩,trivial⟩ (fun _ ext=>TL.fieldAddr hF rfl rfl TL.fin) ?_
   refine DH.read (i:=4) [(39,_,some 3)] rfl rfl rfl rfl ⟨⟨rfl,rfl,rfl⟩,trivial⟩ (fun ext=>TL.load hF rfl (ht.up (by simp)) rfl TL.fin) ?_
   refine DH.read (i:=5) [(13,_,none)] rfl rfl rfl rfl ⟨⟨rfl,by kernel_rfl⟩,trivial⟩ (fun ext=>TL.loadA hF [.int .i64 x.key.1,.int .i64 x.key.2] rfl rfl (own_list (i:=0) rfl) rfl TL.fin) ?_
   refine DH.read (i:=6) [(40,_,some 4),(41,_,some 5)] rfl rfl rfl rfl ⟨⟨rfl,rfl,rfl⟩,⟨rfl,rfl,rfl⟩,trivial⟩ (fun ext=>TL_look1S hF ptr x.key hxm rfl rfl (by simp) htv.mm.obj rfl TL.fin) ?_
   refine DH.pure (i:=7) [(42,_,some 6)] rfl rfl rfl rfl ⟨⟨rfl,rfl,rfl⟩,trivial⟩ (fun _ ext=>TL.nilCheck hF rfl rfl TL.fin) ?_
   refine DH.pure (i:=8) [(43,_,some 7)] rfl rfl rfl rfl ⟨⟨rfl,rfl,rfl⟩,trivial⟩ (fun _ ext=>TL.fieldAddr hF rfl rfl TL.fin) ?_
   refine DH.read (i:=9) [(44,_,some 8)] rfl rfl rfl rfl ⟨⟨rfl,rfl,rfl⟩,trivial⟩ (fun ext=>(by
      refine TL.loadA hF (nhC xn.nh) rfl rfl (fun j v hj=>by
      have h2:=(hcm xn hxn).at' j v (by match j,hj with | 0,h=>exact h | 1,h=>exact h | 2,h=>exact h | 3,h=>exact h)
      exact h2.up (by simp)) rfl ?_
      exact TL.fin)) ?_
   refine DH.heavy 10 [(45,_,some 9)] (by kernel_rfl) (by kernel_rfl) (by kernel_rfl) (by kernel_rfl) rfl rfl rfl rfl ⟨⟨rfl,rfl,rfl⟩,trivial⟩ (by kernel_rfl) (fun ext=>?_)
   refine TL.buildSlice hF rfl (cs:=(nhC xn.nh).toArray) (e:=43) (fun w=>by kernel_rfl) rfl (fun bq=>?_)
   refine TL.finD ?_
   refine DH.done [(46,_),(45,_),(44,_),(43,_),(42,_),(41,_),(40,_),(39,_),(38,_),(37,_),(36,_)] [_,_] (by kernel_rfl) (by kernel_rfl) (by kernel_rfl) (by kernel_rfl) rfl rfl ?_
   refine TL.append hF 2 rfl rfl rfl ho (row_own (cs:=nhC xn.nh) (e:=43) (by simp)).src rfl rfl (nhC1 _) (by omega) (by omega) rfl (fun pa pc pg ph=>?_)
   rw [flat_snoc] at ph
   refine TL.assign hF rfl rfl ?_
   refine TL.nil ?_
   refine TQ.block_n ?_
   refine TQ.then_n ?_
   refine T.region ?_
   refine TL.add hF rfl rfl (by dsimp only; omega) (by dsimp only; omega) rfl ?_
   refine TL.move hF rfl rfl ?_
   refine TL.nil ?_
   refine TQ.pop (TQ.pop ?_)
   refine TQ.round ⟨i+1,l++[xn.nh],pa,pc,pg⟩ ⟨by dsimp only; omega,by dsimp only; rw [nds_snoc,hnl,hst,← hxe]; rfl,fun y hy=>?_,by dsimp only; rw [List.length_append]; exact ph⟩ (by dsimp only; omega) ⟨rfl,rfl,rfl,by rw [List.length_append]; rfl,rfl,rfl,rfl,trivial⟩ rfl
   rcases List.mem_append.1 hy with hy | hy
   ·exact hdl y hy
   ·rw [List.mem_singleton.1 hy]; exact (hcm xn hxn).deps
  ·refine T.exit ?_
   refine TQ.then_x ?_
   refine TQ.then_x ?_
   refine TQ.block_x ?_
   refine TQ.then_n ?_
   refine T.seq ?_
   refine T.region ?_
   refine TL.move hF rfl rfl ?_
   refine TL.assign hF rfl rfl ?_
   refine TL.assign hF rfl rfl ?_
   refine TL.nil ?_
   refine TQ.then_n ?_
   refine T.ret ?_
   have hin:i=(traceS (fl.map TE.ex) cells top).length:=by have h:¬ (i:Int)<((keysN (traceS (fl.map TE.ex) cells top)).length:Int):=ht33; simp only [keysN,List.length_map] at h; omega
   subst hin
   rw [List.take_length] at hnl
   refine TQ.thaw hz ?_
   refine TQ.hsub (m.hc++(og::η)) ((List.Sublist.refl m.hc).append (List.Sublist.cons_cons _ (List.Sublist.trans (List.Sublist.cons _ (List.Sublist.cons _ (List.sublist_cons_self _ _))) (List.sublist_append_right segsK _)))) ?_
   refine TQ.hperm ((og::m.hc)++η) permF.symm ?_
   refine TQ.rets [6,7] _ rfl rfl rfl ?_
   refine ⟨oa,oc,l,og::m.hc,?_,?_,⟨OSl.row ho (by simp),fun x hx=>?_⟩,osl_cap ho,rfl⟩
   ·unfold runE; rw [if_pos hask]; rfl
   ·unfold runE; rw [if_pos hask]; exact hnl
   ·have h3:=(hdl x hx).map' (fun a cs hr=>hr.thaw hback)
    rw [List.append_nil] at h3
    exact h3.map' fun a cs hr=>hr.up (by intro s hs; simp [hs])
end Go.Proofs.YtdiacobmhkmljaaDoor
/- Distance. -/
namespace Go.Proofs.YtdiacobmhkmljaaDoor
open Go.Sl
variable {S:Nat→Prop} {w0:World} {η:Heap}
theorem dist_ok {F:List Ex} {a b:List Int} {top:Key} (h:(distS F a b top).2=0):askedS F a top=0∧askedS F b top=0∧b.length=a.length:=by
 unfold distS at h
 split at h
 ·split at h
  ·rename_i h1 h2; exact ⟨h1,h2.1,h2.2⟩
  ·cases h
 ·rename_i h1; exact absurd h h1
theorem dist_no {F:List Ex} {a b:List Int} {top:Key} (h:(distS F a b top).2≠0):distS F a b top=(0,(distS F a b top).2):=by
 unfold distS at h ⊢
 split
 ·split
  ·rename_i h1 h2; rw [if_pos h1,if_pos h2] at h; exact absurd rfl h
  ·rfl
 ·rfl
theorem dist_yes {F:List Ex} {a b:List Int} {top:Key} (h1:askedS F a top=0) (h2:askedS F b top=0) (h3:b.length=a.length):distS F a b top=(apart (againstS (traceS F a top) (traceS F b top) 0),0):=by
 unfold distS; rw [if_pos h1,if_pos ⟨h2,h3⟩]
/-- What lies behind, below whatever lies ahead. -/
def stk (η:Heap):List Heap→Heap
 | []=>η
 | h::r=>h++stk η r
theorem subl {η:Heap}:∀ l:List Heap,η.Sublist (stk η l)
 | []=>.refl _
 | h::r=>(subl r).trans (List.sublist_append_right h _)
set_option maxHeartbeats 2000000 in
theorem Distance_fn {fa ca da : Option Addr} {fl : List TE} {fc cc dc : Nat} {cells others : List Int} {top : Key} (hT : Tabs S w0) (hf : Fs S w0 [] fa fl) (hfl : fl.length < 9223372036854775808) (hc : Row S w0 [] ca (ints cells)) (hcl : cells.length < 9223372036854775808) (hd : Row S w0 [] da (ints others)) (hdl : others.length < 9223372036854775808) :
  Rt Tryd.prog 14 [.slice fa fl.length fc,.slice ca cells.length cc,.slice da others.length dc,kV top].toArray S w0 η (fun v η'=>v = .tuple #[.int .i64 (distS (fl.map TE.ex) cells others top).1,.int .i64 (distS (fl.map TE.ex) cells others top).2]∧η'=η):=by
 have hF:=open_wide
 refine Rt.of (fn:=Tryd.f14) Tryd.func14 rfl rfl ?_
 refine T.seq ?_
 refine T.region ?_
 refine TL.box hF rfl rfl (fun b7=>?_)
 refine TL.assign hF rfl rfl ?_
 refine TL.assign hF rfl rfl ?_
 refine TL.nil ?_
 refine TQ.then_n ?_
 refine T.seq ?_
 refine T.seq ?_
 refine T.region ?_
 refine TL.move hF rfl rfl ?_
 refine TL.loadA hF [.int .i64 top.1,.int .i64 top.2] rfl rfl (own_list (i:=0) rfl) rfl ?_
 refine TL.move hF rfl rfl ?_
 refine TL.move hF rfl rfl ?_
 refine TL.buildSlice hF rfl (cs:=#[.slice ca cells.length cc,.slice da others.length dc]) (e:=22) (fun w=>by kernel_rfl) rfl (fun b20=>?_)
 have hLL:LL S w0 ([(b20,Obj.cells #[.slice ca cells.length cc,.slice da others.length dc] 22 (0,0))]::[(b7,Obj.cells #[.int .i64 top.1,.int .i64 top.2] 25 (0,0))]::η) (some ⟨b20,0,none⟩) [(ca,cells,cc),(da,others,dc)]:=⟨row_own (cs:=[.slice ca cells.length cc,.slice da others.length dc]) (e:=22) (by simp),fun p hp=>by
  simp only [List.mem_cons,List.not_mem_nil,or_false] at hp
  rcases hp with rfl | rfl
  ·exact hc.ro
  ·exact hd.ro⟩
 refine TL.callV hF (ready_fn hT hf hfl hLL (by simp) (fun p hp=>by
  simp only [List.mem_cons,List.not_mem_nil,or_false] at hp
  rcases hp with rfl | rfl
  ·exact hcl
  ·exact hdl)) rfl rfl ?_
 refine TL.assign hF rfl rfl ?_
 refine TL.nil ?_
 refine TQ.then_n ?_
 refine T.seq ?_
 refine T.region ?_
 refine TL.move hF rfl rfl ?_
 refine TL.bin hF rfl rfl rfl rfl ?_
 refine TL.nil ?_
 refine TQ.then_n ?_
 first | refine T.cond_d rfl (fun ht23=>?_) (fun ht23=>?_) | refine T.cond _ rfl (fun ht23=>?_) (fun ht23=>?_)
 ·refine T.seq ?_
  refine T.region ?_
  refine TL.move hF rfl rfl ?_
  refine TL.assign hF rfl rfl ?_
  refine TL.assign hF rfl rfl ?_
  refine TL.nil ?_
  refine TQ.then_n ?_
  refine T.ret ?_
  refine TQ.then_r ?_
  have hne:readyS (fl.map TE.ex) (tx [(ca,cells,cc),(da,others,dc)]) top≠0:=by simpa using ht23
  refine TQ.hsub η (List.Sublist.cons _ (List.sublist_cons_self _ _)) ?_
  refine TQ.rets [8,9] _ rfl rfl rfl ⟨?_,rfl⟩
  rw [dist_no (by rw [← ready2]; exact hne),← ready2]; rfl
 ·refine T.skip ?_
  refine TQ.then_n ?_
  refine T.seq ?_
  refine T.region ?_
  refine TL.move hF rfl rfl ?_
  refine TL.move hF rfl rfl ?_
  refine TL.loadA hF [.int .i64 top.1,.int .i64 top.2] rfl rfl (own_list (i:=1) rfl) rfl ?_
  have hrdy:(distS (fl.map TE.ex) cells others top).2=0:=by
   rw [← ready2]
   have h:readyS (fl.map TE.ex) (tx [(ca,cells,cc),(da,others,dc)]) top=0:=by simpa using ht23
   exact h
  obtain ⟨hask,hask2,hlen⟩:=dist_ok hrdy
  obtain ⟨hs,hk⟩:=scn_of hask
  obtain ⟨hs2,hk2⟩:=scn_of hask2
  refine TL.call hF (traced_fn (ca:=ca) (cc:=cc) hT hf hc hs hk) rfl rfl ?_
  rintro _ _ ⟨ta,ma,m,rfl,htv,rfl⟩
  refine TL.hperm (m.hc++(mseg ma m::([(b20,Obj.cells #[.slice ca cells.length cc,.slice da others.length dc] 22 (0,0))]::[(b7,Obj.cells #[.int .i64 top.1,.int .i64 top.2] 25 (0,0))]::η))) permF ?_
  refine TL.freeze m.hc rfl (fun S1 w1 hz=>?_)
  have htf:=tf_of hs hk htv.mm.nds
  have ht:=hz.get _ _ htv.t
  have hcm:∀ x∈m.l,CM S1 w1 [] ta x:=fun x hx=>(htv.mm.mem x hx).map fun a v h=>hz.get a v h
  refine TL.move hF rfl rfl ?_
  refine TL.extract hF rfl rfl rfl ?_
  refine TL.extract hF rfl rfl rfl ?_
  refine TL.assign hF rfl rfl ?_
  refine TL.assign hF rfl rfl ?_
  refine TL.nil ?_
  refine TQ.then_n ?_
  refine T.seq ?_
  refine T.region ?_
  refine TL.move hF rfl rfl ?_
  refine TL.move hF rfl rfl ?_
  refine TL.loadA hF [.int .i64 top.1,.int .i64 top.2] rfl rfl (own_list (i:=2) rfl) rfl ?_
  refine TL.call hF (traced_fn (ca:=da) (cc:=dc) (hT.old hz) (hf.old hz) (hd.old hz) hs2 hk2) rfl rfl ?_
  rintro _ _ ⟨tb,mb,m2,rfl,htv2,rfl⟩
  refine TL.hperm (m2.hc++(mseg mb m2::(mseg ma m::([(b20,Obj.cells #[.slice ca cells.length cc,.slice da others.length dc] 22 (0,0))]::[(b7,Obj.cells #[.int .i64 top.1,.int .i64 top.2] 25 (0,0))]::η)))) permF ?_
  refine TL.freeze m2.hc rfl (fun S2 w2 hz2=>?_)
  have htf2:=tf_of hs2 hk2 htv2.mm.nds
  have ht2:=hz2.get _ _ htv2.t
  have hcm2:∀ x∈m2.l,CM S2 w2 [] tb x:=fun x hx=>(htv2.mm.mem x hx).map fun a v h=>hz2.get a v h
  replace ht:=hz2.old ht
  replace hcm:∀ x∈m.l,CM S2 w2 [] ta x:=fun x hx=>(hcm x hx).map fun a v h=>hz2.old h
  refine TL.move hF rfl rfl ?_
  refine TL.extract hF rfl rfl rfl ?_
  refine TL.extract hF rfl rfl rfl ?_
  refine TL.assign hF rfl rfl ?_
  refine TL.assign hF rfl rfl ?_
  refine TL.nil ?_
  refine TQ.then_n ?_
  refine T.seq ?_
  refine T.region ?_
  refine TL.move hF rfl rfl ?_
  refine TL.move hF rfl rfl ?_
  refine TL.call hF (against_fn (R:=mseg mb m2::mseg ma m::([(b20,Obj.cells #[.slice ca cells.length cc,.slice da others.length dc] 22 (0,0))]::[(b7,Obj.cells #[.int .i64 top.1,.int .i64 top.2] 25 (0,0))]::η)) ht2 ht (by simp) (by simp) htv2.mm.obj htv.mm.obj hcm2 hcm htf2.len htf.len htf2.sm htf.sm htf2.nd htf.nd) rfl rfl ?_
  rintro _ _ ⟨x,segs,rfl,hxr,hrm,rfl⟩
  rw [htf.sort,htf2.sort] at hxr
  refine TL.alloc hF rfl (fun b15=>?_)
  refine TL.storeAI hF (rhC x) 0 rfl rfl rfl rfl (rhC1 _) (by simp [Value.cells,rhC]) ?_
  refine TL.nil ?_
  refine TQ.then_n ?_
  refine T.seq ?_
  refine T.drawH 8 mixed ?_
  refine DH.read (i:=0) [] rfl rfl rfl rfl trivial (fun ext=>TL.callV hF (byKey_fn) rfl rfl TL.fin) ?_
  refine DH.pure (i:=1) [(15,_,none)] rfl rfl rfl rfl ⟨⟨rfl,by kernel_rfl⟩,trivial⟩ (fun _ ext=>TL.fieldAddr hF rfl rfl TL.fin) ?_
  refine DH.read (i:=2) [(43,_,some 1)] rfl rfl rfl rfl ⟨⟨rfl,rfl,rfl⟩,trivial⟩ (fun ext=>TL.load hF rfl (At.own' (i:=0) rfl rfl) rfl TL.fin) ?_
  refine DH.pure (i:=3) [(15,_,none)] rfl rfl rfl rfl ⟨⟨rfl,by kernel_rfl⟩,trivial⟩ (fun _ ext=>TL.fieldAddr hF rfl rfl TL.fin) ?_
  refine DH.read (i:=4) [(45,_,some 3)] rfl rfl rfl rfl ⟨⟨rfl,rfl,rfl⟩,trivial⟩ (fun ext=>TL.load hF rfl (At.own' (i:=0) rfl rfl) rfl TL.fin) ?_
  refine DH.pure (i:=5) [(15,_,none)] rfl rfl rfl rfl ⟨⟨rfl,by kernel_rfl⟩,trivial⟩ (fun _ ext=>TL.fieldAddr hF rfl rfl TL.fin) ?_
  refine DH.read (i:=6) [(47,_,some 5)] rfl rfl rfl rfl ⟨⟨rfl,rfl,rfl⟩,trivial⟩ (fun ext=>TL.load hF rfl (At.own' (i:=0) rfl rfl) rfl TL.fin) ?_
  refine DH.k1 (by kernel_rfl) (by kernel_rfl) (by kernel_rfl) (by kernel_rfl) (HBK.mk (h:=7) [0] [(44,_,some 2),(46,_,some 4),(48,_,some 6)] rfl rfl rfl ⟨⟨rfl,rfl,rfl⟩,⟨rfl,rfl,rfl⟩,⟨rfl,rfl,rfl⟩,trivial⟩ (by kernel_rfl) (fun ext=>?_))
  refine TL.buildSlice hF rfl (cs:=#[.slice x.a2 x.r.new.length x.c2,.slice x.a1 x.r.again.length x.c1,.slice x.a4 x.r.dropped.length x.c4]) (e:=46) (fun w=>by kernel_rfl) rfl (fun b49=>?_)
  refine TL.finK ⟨⟨_,rfl,_,_,[],rfl,rfl,trivial,fun ext=>TL.callV hF (byKey_fn) rfl rfl TL.fin⟩,trivial⟩ ?_
  refine DH.done [(49,_),(48,_),(47,_),(46,_),(45,_),(44,_),(43,_),(42,_)] [_,_,_,_] (by kernel_rfl) (by kernel_rfl) (by kernel_rfl) (by kernel_rfl) rfl rfl ?_
  have hcat:catG [(x.a2,x.r.new,x.c2),(x.a1,x.r.again,x.c1),(x.a4,x.r.dropped,x.c4)] 3=x.r.new++(x.r.again++x.r.dropped):=by simp [catG]
  have hsub:∀ k∈x.r.new++(x.r.again++x.r.dropped),SmK k:=by
   have hA:∀ y∈(traceS (fl.map TE.ex) cells top),SmK y.key:=fun y hy=>by
    rw [← htf.sort,mem_sortN htf.nd] at hy
    obtain ⟨z,hz,rfl⟩:=List.mem_map.1 hy
    exact htf.sm z hz
   have hB:∀ y∈(traceS (fl.map TE.ex) others top),SmK y.key:=fun y hy=>by
    rw [← htf2.sort,mem_sortN htf2.nd] at hy
    obtain ⟨z,hz,rfl⟩:=List.mem_map.1 hy
    exact htf2.sm z hz
   have hF':∀ (l:List Nd) (p:Nd→Bool),(∀ y∈l,SmK y.key)→∀ k∈keysN (l.filter p),SmK k:=fun l p hl k hk=>by
    obtain ⟨y,hy,rfl⟩:=List.mem_map.1 hk
    exact hl y (List.mem_filter.1 hy).1
   rw [hxr]
   exact mem_two (hF' _ _ hB) (mem_two (hF' _ _ hB) (hF' _ _ hA))
  have hlen3:(x.r.new++(x.r.again++x.r.dropped)).length≤4824:=by
   have hA:(traceS (fl.map TE.ex) cells top).length=m.l.length:=by rw [← htf.sort,sort_len htf.nd]; simp [pnds]
   have hB:(traceS (fl.map TE.ex) others top).length=m2.l.length:=by rw [← htf2.sort,sort_len htf2.nd]; simp [pnds]
   have q1:=htf.many
   have q2:=htf2.many
   rw [hxr]
   simp only [againstS,keysN,List.length_append,List.length_map]
   have f1:=List.length_filter_le (fun x=>!hasN (traceS (fl.map TE.ex) cells top) x.key) (traceS (fl.map TE.ex) others top)
   have f2:=List.length_filter_le (againB (traceS (fl.map TE.ex) cells top)) (traceS (fl.map TE.ex) others top)
   have f3:=List.length_filter_le (fun x=>!hasN (traceS (fl.map TE.ex) others top) x.key) (traceS (fl.map TE.ex) cells top)
   omega
  refine TL.call hF (sortedKeys_fn (ps:=[(x.a2,x.r.new,x.c2),(x.a1,x.r.again,x.c1),(x.a4,x.r.dropped,x.c4)]) ⟨row_own (cs:=[.slice x.a2 x.r.new.length x.c2,.slice x.a1 x.r.again.length x.c1,.slice x.a4 x.r.dropped.length x.c4]) (e:=46) (by simp),fun p hp=>by
   simp only [List.mem_cons,List.not_mem_nil,or_false] at hp
   rcases hp with rfl | rfl | rfl
   ·exact hrm.r2.up (by intro s hs; simp [hs])
   ·exact hrm.r1.up (by intro s hs; simp [hs])
   ·exact hrm.r4.up (by intro s hs; simp [hs])⟩ (by simp) (by show (catG _ 3).length<_; rw [hcat]; omega) (by show ∀ k∈catG _ 3,_; rw [hcat]; exact hsub)) rfl rfl ?_
  rintro _ _ ⟨ra,rc,segs2,rfl,_,rfl⟩
  refine TL.len hF rfl rfl ?_
  refine TL.assign hF rfl rfl ?_
  refine TL.assign hF rfl rfl ?_
  refine TL.nil ?_
  refine TQ.then_n ?_
  refine T.ret ?_
  refine TQ.thaw hz2 ?_
  refine TQ.thaw hz ?_
  refine TQ.hsub η (subl [m.hc,m2.hc,segs2,[_],[_],segs,[_,_,_,_]]) ?_
  refine TQ.rets [8,9] _ rfl rfl rfl ⟨?_,rfl⟩
  have hapart:((upK (catG [(x.a2,x.r.new,x.c2),(x.a1,x.r.again,x.c1),(x.a4,x.r.dropped,x.c4)] 3)).length:Int)=apart (againstS (traceS (fl.map TE.ex) cells top) (traceS (fl.map TE.ex) others top) 0):=by
   rw [upK_len,hcat,hxr]
   unfold apart
   simp only [List.length_append]; omega
  rw [dist_yes hask hask2 hlen,← hapart]; rfl
end Go.Proofs.YtdiacobmhkmljaaDoor
/- Needs. -/
namespace Go.Proofs.YtdiacobmhkmljaaDoor
open Go.Sl
variable {S:Nat→Prop} {w0:World} {η:Heap}
def UpI (l:List Int):Prop:=l.Pairwise (· < ·)
theorem upI_ext:∀ {l m:List Int},UpI l→UpI m→(∀ x,x∈l↔x∈m)→l=m
 | [],[],_,_,_=>rfl
 | [],y::m,_,_,h=>by have:=(h y).2 (by simp); simp at this
 | x::l,[],_,_,h=>by have:=(h x).1 (by simp); simp at this
 | x::l,y::m,hl,hm,h=>by
  have hl':=List.pairwise_cons.1 hl
  have hm':=List.pairwise_cons.1 hm
  have e:x=y:=by
   rcases List.mem_cons.1 ((h x).1 (by simp)) with e | h1
   ·exact e
   ·rcases List.mem_cons.1 ((h y).2 (by simp)) with e | h2
    ·exact e.symm
    ·have a1:=hm'.1 x h1
     have a2:=hl'.1 y h2
     omega
  subst e
  refine congrArg _ (upI_ext hl'.2 hm'.2 fun z=>?_)
  have hz:=h z
  simp only [List.mem_cons] at hz
  constructor
  ·intro h1
   rcases hz.1 (.inr h1) with e | h2
   ·have:=hl'.1 z h1; omega
   ·exact h2
  ·intro h1
   rcases hz.2 (.inr h1) with e | h2
   ·have:=hm'.1 z h1; omega
   ·exact h2
theorem mem_risI {n z:Int}:∀ {l:List Int},z∈risI l n↔z=n∨z∈l
 | []=>by simp [risI]
 | x::r=>by
  unfold risI
  split
  ·simp
  split
  ·rename_i h1 h2; subst h2; simp
  ·simp only [List.mem_cons,mem_risI]
   constructor
   ·rintro (h | h | h)
    ·exact .inr (.inl h)
    ·exact .inl h
    ·exact .inr (.inr h)
   ·rintro (h | h | h)
    ·exact .inr (.inl h)
    ·exact .inl h
    ·exact .inr (.inr h)
theorem risI_up {n:Int}:∀ {l:List Int},UpI l→UpI (risI l n)
 | [],_=>by simp [risI,UpI]
 | x::r,h=>by
  have h':=List.pairwise_cons.1 h
  unfold risI
  split
  ·rename_i hn
   refine List.pairwise_cons.2 ⟨fun z hz=>?_,h⟩
   rcases List.mem_cons.1 hz with rfl | hz
   ·exact hn
   ·have:=h'.1 z hz; omega
  split
  ·exact h
  ·refine List.pairwise_cons.2 ⟨fun z hz=>?_,risI_up h'.2⟩
   rcases mem_risI.1 hz with rfl | hz
   ·omega
   ·exact h'.1 z hz
theorem ris_go:∀ {l acc:List Int},UpI acc→UpI (l.foldl risI acc)∧∀ z,z∈l.foldl risI acc↔z∈acc∨z∈l
 | [],acc,h=>⟨h,by simp⟩
 | x::l,acc,h=>by
  obtain ⟨h1,h2⟩:=ris_go (l:=l) (risI_up (n:=x) h)
  refine ⟨h1,fun z=>?_⟩
  rw [List.foldl_cons,h2,mem_risI,List.mem_cons]
  constructor
  ·rintro ((h | h) | h)
   ·exact .inr (.inl h)
   ·exact .inl h
   ·exact .inr (.inr h)
  ·rintro (h | h | h)
   ·exact .inl (.inr h)
   ·exact .inl (.inl h)
   ·exact .inr h
theorem mem_cellsOf {l:List Nd} {c:Int}:c∈cellsOf l↔∃ x∈l,∃ d∈x.deps,d.call=false∧d.cell=c:=by
 unfold cellsOf
 simp only [List.mem_flatMap,List.mem_map,List.mem_filter,Bool.not_eq_true']
 constructor
 ·rintro ⟨x,hx,d,⟨h1,h2⟩,h3⟩; exact ⟨x,hx,d,h1,h2,h3⟩
 ·rintro ⟨x,hx,d,h1,h2,h3⟩; exact ⟨x,hx,d,⟨h1,h2⟩,h3⟩
/-- Cells that are read are cells. -/
theorem cells_rng {F:List Ex} {cells:List Int} {top:Key} (hs:Scn F cells) (hk:KOk F (201:Nat) top) {l:List PC} (h:pnds l=(callsS F cells top).1):∀ x∈l,∀ d∈x.nd.deps,d.call=false→0≤d.cell∧d.cell<100:=by
 obtain ⟨k1,k2,k3,k4⟩:=hk
 obtain ⟨hg,_,_⟩:=calls_ok (cells:=cells) hs.right k1 k2 k3 (by omega)
 rw [← h] at hg
 intro x hx d hd hc
 obtain ⟨a1,a2,a3,a4,a5,a6,_⟩:=hg.ok x.nd (List.mem_map_of_mem hx)
 rw [a6] at hd
 obtain ⟨_,w,hw,_⟩:=(asks hs.right a1 a2 d hd).2 hc
 have h1:=cellAt_lt hs.c1 w
 have h2:=hs.c2
 omega
theorem mput_mem {α β:Type} [DecidableEq α] {k:α} {v:β} {m:List (α × β)} {c:α}:c∈(mput k v m).map (·.1)↔c=k∨c∈m.map (·.1):=by
 rw [mput_keys]
 split
 ·rename_i h
  constructor
  ·exact .inr
  ·rintro (rfl | h2)
   ·cases hq:mget c m with
    | none=>rw [hq] at h; cases h
    | some u=>exact List.mem_map_of_mem (f:=(·.1)) (mget_mem hq)
   ·exact h2
 ·rw [List.mem_append,List.mem_singleton]
  exact Or.comm
structure NS where
 done:List Key
 seen:Array Nat
 sm:List (Int × Bool)
 ses:Array MapEntry
 sc:Nat
/-- The cells that are read by the calls that were seen. -/
def SeenC (l:List PC) (done:List Key) (c:Int):Prop:=∃ x∈l,x.nd.key∈done∧∃ d∈x.nd.deps,d.call=false∧d.cell=c
set_option maxHeartbeats 4000000 in
theorem Needs_fn {fa ca : Option Addr} {fl : List TE} {fc cc : Nat} {cells : List Int} {top : Key} (hT : Tabs S w0) (hf : Fs S w0 [] fa fl) (hfl : fl.length < 9223372036854775808) (hc : Row S w0 [] ca (ints cells)) (hcl : cells.length < 9223372036854775808) :
  Rt Tryd.prog 18 [.slice fa fl.length fc,.slice ca cells.length cc,kV top].toArray S w0 η (fun v η'=>∃ a cap segs,v = .tuple #[.slice a (needsS (fl.map TE.ex) cells top).1.length cap,.int .i64 (needsS (fl.map TE.ex) cells top).2]∧Row S w0 segs a (ints (needsS (fl.map TE.ex) cells top).1)∧η'=segs++η):=by
 have hF:=open_wide
 refine Rt.of (fn:=Tryd.f18) Tryd.func18 rfl rfl ?_
 refine T.seq ?_
 refine T.region ?_
 refine TL.box hF rfl rfl (fun b5=>?_)
 refine TL.assign hF rfl rfl ?_
 refine TL.assign hF rfl rfl ?_
 refine TL.nil ?_
 refine TQ.then_n ?_
 refine T.seq ?_
 refine T.seq ?_
 refine T.region ?_
 refine TL.move hF rfl rfl ?_
 refine TL.loadA hF [.int .i64 top.1,.int .i64 top.2] rfl rfl (own_list (i:=0) rfl) rfl ?_
 refine TL.move hF rfl rfl ?_
 refine TL.buildSlice hF rfl (cs:=#[.slice ca cells.length cc]) (e:=22) (fun w=>by kernel_rfl) rfl (fun b19=>?_)
 have hLL:LL S w0 ([(b19,Obj.cells #[.slice ca cells.length cc] 22 (0,0))]::[(b5,Obj.cells #[.int .i64 top.1,.int .i64 top.2] 25 (0,0))]::η) (some ⟨b19,0,none⟩) [(ca,cells,cc)]:=⟨row_own (cs:=[.slice ca cells.length cc]) (e:=22) (by simp),fun p hp=>by
  rw [List.mem_singleton.1 hp]; exact hc.ro⟩
 refine TL.callV hF (ready_fn hT hf hfl hLL (by simp) (fun p hp=>by
  rw [List.mem_singleton.1 hp]; exact hcl)) rfl rfl ?_
 refine TL.assign hF rfl rfl ?_
 refine TL.nil ?_
 refine TQ.then_n ?_
 refine T.seq ?_
 refine T.region ?_
 refine TL.move hF rfl rfl ?_
 refine TL.bin hF rfl rfl rfl rfl ?_
 refine TL.nil ?_
 refine TQ.then_n ?_
 first | refine T.cond_d rfl (fun ht22=>?_) (fun ht22=>?_) | refine T.cond _ rfl (fun ht22=>?_) (fun ht22=>?_)
 ·refine T.seq ?_
  refine T.region ?_
  refine TL.move hF rfl rfl ?_
  refine TL.assign hF rfl rfl ?_
  refine TL.assign hF rfl rfl ?_
  refine TL.nil ?_
  refine TQ.then_n ?_
  refine T.ret ?_
  refine TQ.then_r ?_
  have hne:readyS (fl.map TE.ex) (tx [(ca,cells,cc)]) top≠0:=by simpa using ht22
  have hne2:askedS (fl.map TE.ex) cells top≠0:=by rw [← ready1]; exact hne
  refine TQ.hsub η (List.Sublist.cons _ (List.sublist_cons_self _ _)) ?_
  refine TQ.rets [6,7] _ rfl rfl rfl ?_
  refine ⟨none,0,[],?_,?_,rfl⟩
  ·unfold needsS; rw [if_neg hne2,← ready1]; rfl
  ·unfold needsS; rw [if_neg hne2]; exact Row.none
 ·refine T.skip ?_
  refine TQ.then_n ?_
  refine T.seq ?_
  refine T.region ?_
  refine TL.move hF rfl rfl ?_
  refine TL.move hF rfl rfl ?_
  refine TL.loadA hF [.int .i64 top.1,.int .i64 top.2] rfl rfl (own_list (i:=1) rfl) rfl ?_
  have hask:askedS (fl.map TE.ex) cells top=0:=by
   rw [← ready1]
   have h:readyS (fl.map TE.ex) (tx [(ca,cells,cc)]) top=0:=by simpa using ht22
   exact h
  obtain ⟨hs,hk⟩:=scn_of hask
  refine TL.call hF (traced_fn (ca:=ca) (cc:=cc) hT hf hc hs hk) rfl rfl ?_
  rintro _ _ ⟨tb,mb,m,rfl,htv,rfl⟩
  refine TL.hperm (m.hc++(mseg mb m::([(b19,Obj.cells #[.slice ca cells.length cc] 22 (0,0))]::[(b5,Obj.cells #[.int .i64 top.1,.int .i64 top.2] 25 (0,0))]::η))) permF ?_
  refine TL.freeze2 m.hc rfl (fun S1 w1 hz hback=>?_)
  have htf:=tf_of hs hk htv.mm.nds
  have hcr:=cells_rng hs hk htv.mm.nds
  have ht:=hz.get _ _ htv.t
  have hcm:∀ x∈m.l,CM S1 w1 [] tb x:=fun x hx=>(htv.mm.mem x hx).map fun a v h=>hz.get a v h
  refine TL.move hF rfl rfl ?_
  refine TL.extract hF rfl rfl rfl ?_
  refine TL.extract hF rfl rfl rfl ?_
  refine TL.assign hF rfl rfl ?_
  refine TL.assign hF rfl rfl ?_
  refine TL.nil ?_
  refine TQ.then_n ?_
  refine T.seq ?_
  refine T.region ?_
  refine TL.makeMap hF rfl (fun b31=>?_)
  refine TL.assign hF rfl rfl ?_
  refine TL.nil ?_
  refine TQ.then_n ?_
  refine T.seq ?_
  refine T.seq ?_
  refine T.region ?_
  refine TL.move hF rfl rfl ?_
  refine TL.nilCheck hF rfl rfl ?_
  refine TL.fieldAddr hF rfl rfl ?_
  refine TL.load hF rfl (ht.up (by simp)) rfl ?_
  refine TL.range hF rfl (List.mem_cons_of_mem _ (List.mem_cons_self (a:=mseg mb m))) rfl (fun b36=>?_)
  refine TL.nil ?_
  refine TQ.then_n ?_
  refine T.block ?_
  refine T.loop (ι:=NS) (fun s=>ItOk (kb m.l) m.es s.seen s.done∧s.done.Nodup∧(∀ k∈s.done,k∈(kb m.l).map (·.1))∧MObj (Value.int .i64) Value.bool s.sm s.ses s.sc∧∀ c,c∈s.sm.map (·.1)↔SeenC m.l s.done c) (fun _=>[(6,.slice none 0 0),(7,.int .i64 0),(11,.map (some b31)),(36,ptr b36)]) (fun s=>[(b36,Obj.mapIter (some mb) m.clock s.seen m.clock)]::[(b31,Obj.map s.ses s.sc)]::mseg mb m::([(b19,Obj.cells #[.slice ca cells.length cc] 22 (0,0))]::[(b5,Obj.cells #[.int .i64 top.1,.int .i64 top.2] 25 (0,0))]::η)) (fun s=>((kb m.l).map (·.1)).length - s.done.length) ⟨[],#[],[],#[],0⟩ ⟨ItOk.start _ _,List.nodup_nil,by simp,MObj.nil _ _,by simp [SeenC]⟩ ⟨rfl,rfl,rfl,rfl,trivial⟩ rfl ?_
  rintro ⟨done,seen,sm,ses,sc⟩ ⟨hit,hnd,hsub,hsm,hsc⟩
  dsimp only at hit hnd hsub hsm hsc
  refine T.seq ?_
  refine T.region ?_
  refine TL.next hF 0 rfl rfl (by simp) htv.mm.obj hit rfl (fun hover=>?_) (fun p37 seen37 hp37 hnd37 hit37 hent37=>?_)
  ·refine TL.extract hF rfl rfl rfl ?_
   refine TL.nil ?_
   refine TQ.then_n ?_
   refine T.seq ?_
   refine T.cond_f rfl rfl ?_
   refine T.exit ?_
   refine TQ.then_x ?_
   refine TQ.then_x ?_
   refine TQ.block_x ?_
   refine TQ.then_n ?_
   refine T.seq ?_
   refine T.region ?_
   refine TL.build hF rfl (r:=.agg #[.func (.func 48) #[] #[]]) (fun w=>by kernel_rfl) rfl ?_
   refine TL.move hF rfl rfl ?_
   refine TL.call hF keysFI rfl rfl ?_
   rintro _ _ ⟨b1,rfl,rfl⟩
   have hall:∀ x∈m.l,x.nd.key∈done:=fun x hx=>hover (x.nd.key,x.b) (List.mem_map_of_mem (f:=fun x:PC=>(x.nd.key,x.b)) hx)
   have hsc2:∀ c,c∈sm.map (·.1)↔∃ x∈m.l,∃ d∈x.nd.deps,d.call=false∧d.cell=c:=fun c=>by
    rw [hsc]
    exact ⟨fun ⟨x,h1,_,h3⟩=>⟨x,h1,h3⟩,fun ⟨x,h1,h3⟩=>⟨x,h1,hall x h1,h3⟩⟩
   have hrng:∀ c∈sm.map (·.1),0≤c∧c<100:=fun c hc=>by
    obtain ⟨x,h1,d,h2,h3,rfl⟩:=(hsc2 c).1 hc
    exact hcr x h1 d h2 h3
   have hsl:(sm.map (·.1)).length≤((List.range 100).map fun i:Nat=>(i:Int)).length:=sub_len hsm.nd fun c hc=>by
    have:=hrng c hc
    exact List.mem_map.2 ⟨c.toNat,List.mem_range.2 (by omega),by omega⟩
   simp only [List.length_map,List.length_range] at hsl
   refine TL.call hF (collectI hsm (by omega) List.mem_cons_self (by simp)) rfl rfl ?_
   rintro _ _ ⟨oa,oc,og,ks,rfl,hos,hnd2,hks,rfl⟩
   have hkl:ks.length≤(sm.map (·.1)).length:=sub_len hnd2 fun k hk=>(hks k).1 hk
   rw [List.length_map] at hkl
   refine TL.buildSlice hF rfl (cs:=#[.slice oa ks.length oc]) (e:=22) (fun w=>by kernel_rfl) rfl (fun b62=>?_)
   have hcat:catG [(oa,ks,oc)] 1=ks:=catG1 _
   refine TL.call hF (sortedInts_fn (ps:=[(oa,ks,oc)]) ⟨row_own (cs:=[.slice oa ks.length oc]) (e:=22) (by simp),fun p hp=>by
    rw [List.mem_singleton.1 hp]; exact OSl.row hos (by simp)⟩ (by simp) (by show (catG [(oa,ks,oc)] 1).length<_; rw [hcat]; omega) (fun k hk=>by
    have hk2:k∈ks:=by rw [← hcat]; exact hk
    have:=hrng k ((hks k).1 hk2)
    unfold SmI; omega)) rfl rfl ?_
   rintro _ _ ⟨ra,rc,segs,rfl,hrow,rfl⟩
   have hup:upI (catG [(oa,ks,oc)] [(oa,ks,oc)].length)=(needsS (fl.map TE.ex) cells top).1:=by
    show upI (catG [(oa,ks,oc)] 1)=_
    rw [hcat]
    unfold needsS
    rw [if_pos hask]
    obtain ⟨g1,g2⟩:=ris_go (l:=cellsOf (traceS (fl.map TE.ex) cells top)) (acc:=[]) (by simp [UpI])
    refine upI_ext (upI_up hnd2) g1 fun c=>?_
    rw [mem_upI,hks,hsc2,g2,mem_cellsOf]
    simp only [List.not_mem_nil,false_or]
    constructor
    ·rintro ⟨x,hx,h⟩
     exact ⟨x.nd,by rw [← htf.sort,mem_sortN htf.nd]; exact List.mem_map_of_mem hx,h⟩
    ·rintro ⟨x,hx,h⟩
     rw [← htf.sort,mem_sortN htf.nd] at hx
     obtain ⟨y,hy,rfl⟩:=List.mem_map.1 hx
     exact ⟨y,hy,h⟩
   rw [hup] at hrow ⊢
   refine TL.assign hF rfl rfl ?_
   refine TL.assign hF rfl rfl ?_
   refine TL.nil ?_
   refine TQ.then_n ?_
   refine T.ret ?_
   refine TQ.thaw hz ?_
   refine TQ.hsub (m.hc++(segs++η)) ((List.Sublist.refl m.hc).append ((List.Sublist.refl segs).append (subl [[_,_,_],[_,_,_,_,_]]))) ?_
   refine TQ.heap (η':=(m.hc++segs)++η) (by rw [List.append_assoc]) ?_
   refine TQ.rets [6,7] _ rfl rfl rfl ?_
   refine ⟨ra,rc,m.hc++segs,?_,?_,rfl⟩
   ·rw [show (needsS (fl.map TE.ex) cells top).2=0 by unfold needsS; rw [if_pos hask]]; rfl
   ·rw [encZ_ints] at hrow; exact hrow.thaw hback
  ·refine TL.extract hF rfl rfl rfl ?_
   refine TL.nil ?_
   refine TQ.then_n ?_
   refine T.seq ?_
   refine T.cond_t rfl rfl ?_
   refine T.skip ?_
   refine TQ.then_n ?_
   refine T.block ?_
   refine T.seq ?_
   refine T.region ?_
   refine TL.entry hF rfl List.mem_cons_self (List.mem_cons_of_mem _ (List.mem_cons_of_mem _ (List.mem_cons_self (a:=mseg mb m)))) htv.mm.obj hent37 rfl ?_
   refine TL.extract hF rfl rfl rfl ?_
   refine TL.assign hF rfl rfl ?_
   refine TL.nil ?_
   refine TQ.then_n ?_
   refine T.seq ?_
   refine T.region ?_
   refine TL.move hF rfl rfl ?_
   obtain ⟨x,hx,hpx⟩:∃ x∈m.l,p37=(x.nd.key,x.b):=by
    obtain ⟨x,hx,he⟩:=List.mem_map.1 hp37
    exact ⟨x,hx,he.symm⟩
   subst hpx
   dsimp only at hp37 hnd37 hit37 hent37
   refine TL.nilCheck hF rfl rfl ?_
   refine TL.fieldAddr hF rfl rfl ?_
   refine TL.fieldAddr hF rfl rfl ?_
   refine TL.load hF rfl ((hcm x hx).at' 3 _ rfl |>.up (by simp)) rfl ?_
   refine TL.len hF rfl rfl ?_
   refine TL.move hF rfl rfl ?_
   refine TL.nil ?_
   refine TQ.then_n ?_
   refine T.block ?_
   have hxl:=(hcm x hx).deps.len
   change x.nd.deps.length<_ at hxl
   refine T.loop (ι:=Nat × List (Int × Bool) × Array MapEntry × Nat) (fun s=>s.1≤x.nd.deps.length∧MObj (Value.int .i64) Value.bool s.2.1 s.2.2.1 s.2.2.2∧∀ c,c∈s.2.1.map (·.1)↔SeenC m.l done c∨∃ d∈x.nd.deps.take s.1,d.call=false∧d.cell=c) (fun s=>[(6,.slice none 0 0),(7,.int .i64 0),(11,.map (some b31)),(36,ptr b36),(45,.slice x.a x.nd.deps.length x.c),(46,.int .i64 (x.nd.deps.length:Int)),(47,.int .i64 (s.1:Int))]) (fun s=>[(b36,Obj.mapIter (some mb) m.clock seen37 m.clock)]::[(b31,Obj.map s.2.2.1 s.2.2.2)]::mseg mb m::([(b19,Obj.cells #[.slice ca cells.length cc] 22 (0,0))]::[(b5,Obj.cells #[.int .i64 top.1,.int .i64 top.2] 25 (0,0))]::η)) (fun s=>x.nd.deps.length - s.1) (0,sm,ses,sc) ⟨Nat.zero_le _,hsm,fun c=>by rw [hsc]; simp⟩ ⟨rfl,rfl,rfl,rfl,rfl,rfl,rfl,trivial⟩ rfl ?_
   rintro ⟨j,sm1,ses1,sc1⟩ ⟨hj,hsm1,hsc1⟩
   dsimp only at hj hsm1 hsc1
   refine T.seq ?_
   refine T.region ?_
   refine TL.bin hF rfl rfl rfl rfl ?_
   refine TL.nil ?_
   refine TQ.then_n ?_
   refine T.seq ?_
   first | refine T.cond_d rfl (fun ht48=>?_) (fun ht48=>?_) | refine T.cond _ rfl (fun ht48=>?_) (fun ht48=>?_)
   ·refine T.skip ?_
    refine TQ.then_n ?_
    refine T.seq ?_
    refine T.block ?_
    refine T.seq ?_
    refine T.region ?_
    have hjl:j<x.nd.deps.length:=by have h:(j:Int)<(x.nd.deps.length:Int):=ht48; omega
    have htk:x.nd.deps.take (j+1)=x.nd.deps.take j++[x.nd.deps[j]]:=List.take_succ_eq_append_getElem hjl
    refine TL.indexAddr hF rfl rfl ((hcm x hx).deps.row.tad dpC_len (by decide) hjl) (by omega) (by omega) rfl ?_
    refine TL.loadA hF (dpC x.nd.deps[j]) rfl rfl ((hcm x hx).deps.row.ro.tabA dpC_len (i:=j) hjl) rfl ?_
    refine TL.alloc hF rfl (fun b15=>?_)
    generalize hdd:x.nd.deps[j]=d at htk ⊢
    refine TL.storeAs hF (dpC d) (dpC d) 0 (cs:=[.bool false,.int .i64 0,.int .i64 0,.int .i64 0,.int .i64 0]) rfl rfl rfl rfl (dpC1 _) (Nat.le_refl 5) rfl ?_
    refine TL.nil ?_
    refine TQ.then_n ?_
    refine T.seq ?_
    refine T.region ?_
    refine TL.fieldAddr hF rfl rfl ?_
    refine TL.load hF rfl (own_mem (cs:=(dpC d).toArray) (e:=56) (fz:=(0,0)) (by simp) rfl) rfl ?_
    refine TL.not hF rfl rfl ?_
    refine TL.nil ?_
    refine TQ.then_n ?_
    refine T.cond _ rfl (fun ht53=>?_) (fun ht53=>?_)
    ·refine T.region ?_
     refine TL.move hF rfl rfl ?_
     refine TL.fieldAddr hF rfl rfl ?_
     refine TL.load hF rfl (own_mem (cs:=(dpC d).toArray) (e:=56) (fz:=(0,0)) (by simp) rfl) rfl ?_
     refine TL.mapUpdate hF 2 Value.bool d.cell true rfl rfl rfl rfl hsm1 (fun ses2 sc2 hsm2=>?_)
     refine TL.nil ?_
     refine TQ.block_n ?_
     refine TQ.then_n ?_
     refine T.region ?_
     refine TL.add hF rfl rfl (by omega) (by omega) rfl ?_
     refine TL.move hF rfl rfl ?_
     refine TL.nil ?_
     have hdc:d.call=false:=by simpa using ht53
     refine TQ.pop ?_
     refine TQ.round (j+1,_,ses2,sc2) ⟨by dsimp only; omega,hsm2,fun c=>?_⟩ (by dsimp only; omega) ⟨rfl,rfl,rfl,rfl,rfl,rfl,rfl,trivial⟩ rfl
     dsimp only
     rw [mput_mem,hsc1,htk]
     simp only [List.mem_append,List.mem_singleton]
     constructor
     ·rintro (rfl | h | ⟨e,h1,h2⟩)
      ·exact .inr ⟨d,.inr rfl,hdc,rfl⟩
      ·exact .inl h
      ·exact .inr ⟨e,.inl h1,h2⟩
     ·rintro (h | ⟨e,h1 | rfl,h2⟩)
      ·exact .inr (.inl h)
      ·exact .inr (.inr ⟨e,h1,h2⟩)
      ·exact .inl h2.2.symm
    ·refine T.skip ?_
     refine TQ.block_n ?_
     refine TQ.then_n ?_
     refine T.region ?_
     refine TL.add hF rfl rfl (by omega) (by omega) rfl ?_
     refine TL.move hF rfl rfl ?_
     refine TL.nil ?_
     have hdc:d.call=true:=by simpa using ht53
     refine TQ.pop ?_
     refine TQ.round (j+1,sm1,ses1,sc1) ⟨by dsimp only; omega,hsm1,fun c=>?_⟩ (by dsimp only; omega) ⟨rfl,rfl,rfl,rfl,rfl,rfl,rfl,trivial⟩ rfl
     dsimp only
     rw [hsc1,htk]
     simp only [List.mem_append,List.mem_singleton]
     constructor
     ·rintro (h | ⟨e,h1,h2⟩)
      ·exact .inl h
      ·exact .inr ⟨e,.inl h1,h2⟩
     ·rintro (h | ⟨e,h1 | rfl,h2⟩)
      ·exact .inl h
      ·exact .inr ⟨e,h1,h2⟩
      ·rw [hdc] at h2; cases h2.1
   ·refine T.exit ?_
    refine TQ.then_x ?_
    refine TQ.then_x ?_
    refine TQ.block_x ?_
    refine TQ.block_n ?_
    have hjn:x.nd.deps.length≤j:=by have h:¬ (j:Int)<(x.nd.deps.length:Int):=ht48; omega
    rw [List.take_of_length_le hjn] at hsc1
    have hkx:x.nd.key∈(kb m.l).map (·.1):=List.mem_map_of_mem (f:=(·.1)) hp37
    have hlt:(x.nd.key::done).length≤((kb m.l).map (·.1)).length:=sub_len (List.nodup_cons.2 ⟨hnd37,hnd⟩) (fun k hk=>by
     rcases List.mem_cons.1 hk with rfl | hk
     ·exact hkx
     ·exact hsub k hk)
    refine TQ.round ⟨x.nd.key::done,seen37,sm1,ses1,sc1⟩ ⟨hit37,List.nodup_cons.2 ⟨hnd37,hnd⟩,fun k hk=>?_,hsm1,fun c=>?_⟩ (by dsimp only; simp only [List.length_cons] at hlt ⊢; omega) ⟨rfl,rfl,rfl,rfl,trivial⟩ rfl
    ·rcases List.mem_cons.1 hk with rfl | hk
     ·exact hkx
     ·exact hsub k hk
    ·dsimp only
     rw [hsc1]
     constructor
     ·rintro (⟨y,h1,h2,h3⟩ | h)
      ·exact ⟨y,h1,List.mem_cons_of_mem _ h2,h3⟩
      ·exact ⟨x,hx,List.mem_cons_self,h⟩
     ·rintro ⟨y,h1,h2,h3⟩
      rcases List.mem_cons.1 h2 with h2 | h2
      ·have hxy:y.nd=x.nd:=by
        have q1:=findN_mem htf.nd (List.mem_map_of_mem (f:=(·.nd)) h1)
        have q2:=findN_mem htf.nd (List.mem_map_of_mem (f:=(·.nd)) hx)
        rw [h2,q2] at q1
        exact (Option.some.inj q1).symm
       rw [hxy] at h3
       exact .inr h3
      ·exact .inl ⟨y,h1,h2,h3⟩
end Go.Proofs.YtdiacobmhkmljaaDoor
/- Play. -/
namespace Go.Proofs.YtdiacobmhkmljaaDoor
open Go.Sl
variable {S:Nat→Prop} {w0:World} {η:Heap}
abbrev EH:=GH (Int × Int)
def erounds (ps:List EH):List (List (Int × Int)):=ps.map (·.2.1)
structure RL (S:Nat→Prop) (w0:World) (η:Heap) (a:Option Addr) (l:List RH):Prop where
 row:Row S w0 η a (l.flatMap rhC)
 item:∀ x∈l,RM S w0 η x
theorem RL.none:RL S w0 η none []:=⟨Row.none,fun p hp=>by simp at hp⟩
theorem RL.map {S':Nat→Prop} {w1:World} {η':Heap} (hm:∀ a cs,Row S w0 η a cs→Row S' w1 η' a cs) {a:Option Addr} {l:List RH} (h:RL S w0 η a l):RL S' w1 η' a l:=⟨hm _ _ h.row,fun x hx=>(h.item x hx).map hm⟩
theorem RM.thaw {S':Nat→Prop} {w1:World} {ηr η':Heap} {x:RH} (hb:∀ η' a v,At S' w1 η' a v→At S w0 (ηr++η') a v) (h:RM S' w1 η' x):RM S w0 (ηr++η') x:=h.map fun _ _ hr=>hr.thaw hb
theorem TV.up {tb mb:Nat} {ns:List Nd} {es:Array MapEntry} {clock:Nat} {l:List PC} {h h':Heap} (hv:TV S w0 tb mb ns ⟨es,clock,l,h⟩) (hs:∀ s∈h,s∈h'):TV S w0 tb mb ns ⟨es,clock,l,h'⟩ :=
 ⟨⟨hv.mm.obj,hv.mm.nds,fun x hx=>(hv.mm.mem x hx).up hs⟩,hv.t.up hs⟩
theorem TV.thaw {S':Nat→Prop} {w1:World} {ηr:Heap} {tb mb:Nat} {ns:List Nd} {es:Array MapEntry} {clock:Nat} {l:List PC} {h:Heap} (hb:∀ η' a v,At S' w1 η' a v→At S w0 (ηr++η') a v) (hv:TV S' w1 tb mb ns ⟨es,clock,l,h⟩):TV S w0 tb mb ns ⟨es,clock,l,ηr++h⟩ :=
 ⟨⟨hv.mm.obj,hv.mm.nds,fun x hx=>(hv.mm.mem x hx).thaw hb⟩,hb _ _ _ hv.t⟩
theorem editS_len (l:List (Int × Int)):∀ cells:List Int,(editS cells l).length=cells.length:=by
 induction l with
 | nil=>intro c; rfl
 | cons x r ih=>intro c; show (editS _ r).length=_; rw [ih,List.length_set]
theorem editS_snoc (l:List (Int × Int)) (x:Int × Int) (c:List Int):editS c (l++[x])=(editS c l).set x.1.toNat x.2:=by unfold editS; rw [List.foldl_append]; rfl
theorem editS_word {l:List (Int × Int)} (hl:∀ x∈l,isW x.2=true):∀ {c:List Int},(∀ n∈c,isW n=true)→∀ n∈editS c l,isW n=true:=by
 induction l with
 | nil=>intro c hc; exact hc
 | cons x r ih =>
  intro c hc
  refine ih (fun y hy=>hl y (by simp [hy])) (c:=c.set x.1.toNat x.2) fun n hn=>?_
  rcases List.mem_or_eq_of_mem_set hn with h | h
  ·exact hc n h
  ·rw [h]; exact hl x (by simp)
theorem asked_edit {F:List Ex} {c:List Int} {top:Key} {l:List (Int × Int)} (h:askedS F c top=0) (hl:∀ x∈l,isW x.2=true):askedS F (editS c l) top=0:=by
 obtain ⟨h1,h2,h3⟩:=asked_01 h
 obtain ⟨⟨c1,c2⟩,c3⟩:=okCells_iff.1 h2
 unfold askedS
 rw [if_pos h1,h3,okCells_iff.2 ⟨by rw [editS_len]; exact ⟨c1,c2⟩,editS_word hl c3⟩]; rfl
theorem okEdit_iff {m:Nat} {x:Int × Int}:okEdit m x=true↔0≤x.1∧x.1<m∧isW x.2=true:=by
 unfold okEdit; simp only [Bool.and_eq_true,decide_eq_true_eq]
 constructor
 ·rintro ⟨⟨a,b⟩,c⟩; exact ⟨a,by omega,c⟩
 ·rintro ⟨a,b,c⟩; exact ⟨⟨a,by omega⟩,c⟩
theorem long_one {ps:List EH} {i:Nat} (h:i<ps.length) (hl:30<ps[i].2.1.length):longS (erounds ps)=true:=by
 unfold longS
 rw [Bool.or_eq_true]; right
 rw [List.any_eq_true]
 exact ⟨ps[i].2.1,List.mem_map_of_mem (List.getElem_mem h),by simpa using hl⟩
theorem long_no {ps:List EH} (h:ps.length≤30) (hl:∀ p∈ps,p.2.1.length≤30):longS (erounds ps)=false:=by
 unfold longS erounds
 rw [Bool.or_eq_false_iff]
 refine ⟨by simpa using h,?_⟩
 rw [List.any_eq_false]
 intro l hm
 obtain ⟨p,hp,rfl⟩:=List.mem_map.1 hm
 have:=hl p hp
 simpa using this
theorem edits_no {ps:List EH} {m i j:Nat} (h:i<ps.length) (hj:j<ps[i].2.1.length) (he:okEdit m ps[i].2.1[j]=false):(erounds ps).all (fun l=>l.all (okEdit m))=false:=by
 rw [List.all_eq_false]
 refine ⟨ps[i].2.1,List.mem_map_of_mem (List.getElem_mem h),?_⟩
 rw [Bool.not_eq_true,List.all_eq_false]
 exact ⟨_,List.getElem_mem hj,by rw [he]; decide⟩
theorem edits_yes {ps:List EH} {m:Nat} (h:∀ p∈ps,∀ x∈p.2.1,okEdit m x=true):(erounds ps).all (fun l=>l.all (okEdit m))=true:=by
 rw [List.all_eq_true]
 intro l hm
 obtain ⟨p,hp,rfl⟩:=List.mem_map.1 hm
 rw [List.all_eq_true]
 exact h p hp
/-- Lists of blocks that have the same blocks. -/
theorem perm_cnt {a b:Heap} (h:∀ (f:Seg→Nat),(a.map f).sum=(b.map f).sum):a.Perm b:=by
 classical
 rw [List.perm_iff_count]
 intro x
 have:=h fun s=>if s=x then 1 else 0
 have key:∀ l:Heap,(l.map fun s=>if s=x then 1 else 0).sum=l.count x:=by
  intro l
  induction l with
  | nil=>rfl
  | cons y r ih =>
   rw [List.map_cons,List.sum_cons,ih,List.count_cons]
   by_cases e:y=x
   ·simp [e]; omega
   ·simp [e]
 rw [key,key] at this
 exact this
/-- A state of Play. -/
structure PS where
 i:Nat
 l:List RH
 a:Option Addr
 c:Nat
 g:Seg
 tb:Nat
 mb:Nat
 es:Array MapEntry
 clock:Nat
 pl:List PC
 cur:List Int
 ca:Option Addr
 cc:Nat
 H:Heap
theorem traced_fn' {fa : Option Addr} {fc n : Nat} {fl : List TE} {ca : Option Addr} {cc : Nat} {cells : List Int} {top : Key} (hn : n = cells.length) (hT : Tabs S w0) (hf : Fs S w0 [] fa fl) (hcl : Row S w0 [] ca (ints cells)) (hs : Scn (fl.map TE.ex) cells) (hk : KOk (fl.map TE.ex) (201 : Nat) top) :
  Rt Tryd.prog 37 [.slice fa fl.length fc,.slice ca n cc,kV top].toArray S w0 η (fun v η'=>∃ tb mb m,v = .tuple #[ptr tb,.int .i64 (callsS (fl.map TE.ex) cells top).2]∧TV S w0 tb mb (callsS (fl.map TE.ex) cells top).1 m∧η'=mseg mb m::(m.hc++η)):=by
 subst hn; exact traced_fn hT hf hcl hs hk
def RH.setW (x:RH) (w:Int):RH:=⟨⟨w,x.r.again,x.r.new,x.r.kept,x.r.dropped⟩,x.a1,x.c1,x.a2,x.c2,x.a3,x.c3,x.a4,x.c4⟩
set_option maxHeartbeats 8000000 in
theorem Play_fn {fa ca ra : Option Addr} {fl : List TE} {fc cc rc : Nat} {cells : List Int} {top : Key} {ps : List EH} (hT : Tabs S w0) (hf : Fs S w0 [] fa fl) (hfl : fl.length < 9223372036854775808) (hc : Row S w0 [] ca (ints cells)) (hcl : cells.length < 9223372036854775808) (hr : GL kC S w0 [] ra ps) (hrl0 : ps.length < 9223372036854775808) (_hrl1 : ∀ p ∈ ps, p.2.1.length < 9223372036854775808) :
  Rt Tryd.prog 11 [.slice fa fl.length fc,.slice ca cells.length cc,kV top,.slice ra ps.length rc].toArray S w0 η (fun v η'=>∃ a cap l segs,v = .tuple #[.slice a l.length cap,.int .i64 (playS (fl.map TE.ex) cells top (erounds ps)).2]∧l.map (·.r)=(playS (fl.map TE.ex) cells top (erounds ps)).1∧RL S w0 segs a l∧l.length≤cap∧η'=segs++η):=by
 have hF:=open_wide
 refine Rt.of (fn:=Tryd.f11) Tryd.func11 rfl rfl ?_
 refine T.seq ?_
 refine T.region ?_
 refine TL.box hF rfl rfl (fun b6=>?_)
 refine TL.assign hF rfl rfl ?_
 refine TL.assign hF rfl rfl ?_
 refine TL.nil ?_
 refine TQ.then_n ?_
 refine T.seq ?_
 refine T.seq ?_
 refine T.region ?_
 refine TL.move hF rfl rfl ?_
 refine TL.loadA hF [.int .i64 top.1,.int .i64 top.2] rfl rfl (own_list (i:=0) rfl) rfl ?_
 refine TL.move hF rfl rfl ?_
 refine TL.buildSlice hF rfl (cs:=#[.slice ca cells.length cc]) (e:=22) (fun w=>by kernel_rfl) rfl (fun b30=>?_)
 have hLL:LL S w0 ([(b30,Obj.cells #[.slice ca cells.length cc] 22 (0,0))]::[(b6,Obj.cells #[.int .i64 top.1,.int .i64 top.2] 25 (0,0))]::η) (some ⟨b30,0,none⟩) [(ca,cells,cc)]:=⟨row_own (cs:=[.slice ca cells.length cc]) (e:=22) (by simp),fun p hp=>by
  rw [List.mem_singleton.1 hp]; exact hc.ro⟩
 refine TL.callV hF (ready_fn hT hf hfl hLL (by simp) (fun p hp=>by
  rw [List.mem_singleton.1 hp]; exact hcl)) rfl rfl ?_
 refine TL.assign hF rfl rfl ?_
 refine TL.nil ?_
 refine TQ.then_n ?_
 refine T.seq ?_
 refine T.region ?_
 refine TL.move hF rfl rfl ?_
 refine TL.bin hF rfl rfl rfl rfl ?_
 refine TL.nil ?_
 refine TQ.then_n ?_
 first | refine T.cond_d rfl (fun ht33=>?_) (fun ht33=>?_) | refine T.cond _ rfl (fun ht33=>?_) (fun ht33=>?_)
 ·refine T.seq ?_
  refine T.region ?_
  refine TL.move hF rfl rfl ?_
  refine TL.assign hF rfl rfl ?_
  refine TL.assign hF rfl rfl ?_
  refine TL.nil ?_
  refine TQ.then_n ?_
  refine T.ret ?_
  refine TQ.then_r ?_
  have hne:readyS (fl.map TE.ex) (tx [(ca,cells,cc)]) top≠0:=by simpa using ht33
  have hne2:askedS (fl.map TE.ex) cells top≠0:=by rw [← ready1]; exact hne
  refine TQ.hsub η (List.Sublist.cons _ (List.sublist_cons_self _ _)) ?_
  refine TQ.rets [8,9] _ rfl rfl rfl ?_
  refine ⟨none,0,[],[],?_,?_,RL.none,Nat.le_refl _,rfl⟩
  ·unfold playS; rw [if_neg hne2,← ready1]; rfl
  ·unfold playS; rw [if_neg hne2]; rfl
 ·refine T.skip ?_
  refine TQ.then_n ?_
  refine T.seq ?_
  refine T.seq ?_
  refine T.region ?_
  refine TL.move hF rfl rfl ?_
  refine TL.len hF rfl rfl ?_
  refine TL.bin hF rfl rfl rfl rfl ?_
  refine TL.nil ?_
  refine TQ.then_n ?_
  first | refine T.cond_d rfl (fun ht37=>?_) (fun ht37=>?_) | refine T.cond _ rfl (fun ht37=>?_) (fun ht37=>?_)
  ·refine T.seq ?_
   refine T.region ?_
   refine TL.assign hF rfl rfl ?_
   refine TL.assign hF rfl rfl ?_
   refine TL.nil ?_
   refine TQ.then_n ?_
   refine T.ret ?_
   refine TQ.then_r ?_
   have hask:askedS (fl.map TE.ex) cells top=0:=by
    rw [← ready1]
    have h:readyS (fl.map TE.ex) (tx [(ca,cells,cc)]) top=0:=by simpa using ht33
    exact h
   have hlong:longS (erounds ps)=true:=by
    unfold longS erounds; rw [Bool.or_eq_true]; left; simp only [List.length_map,decide_eq_true_eq]; omega
   refine TQ.hsub η (List.Sublist.cons _ (List.sublist_cons_self _ _)) ?_
   refine TQ.rets [8,9] _ rfl rfl rfl ?_
   refine ⟨none,0,[],[],?_,?_,RL.none,Nat.le_refl _,rfl⟩
   ·unfold playS; rw [if_pos hask,hlong]; rfl
   ·unfold playS; rw [if_pos hask,hlong]; rfl
  ·refine T.skip ?_
   refine TQ.then_n ?_
   refine T.seq ?_
   refine T.seq ?_
   refine T.region ?_
   refine TL.move hF rfl rfl ?_
   refine TL.len hF rfl rfl ?_
   refine TL.move hF rfl rfl ?_
   refine TL.nil ?_
   refine TQ.then_n ?_
   refine T.block ?_
   have hask:askedS (fl.map TE.ex) cells top=0:=by
    rw [← ready1]
    have h:readyS (fl.map TE.ex) (tx [(ca,cells,cc)]) top=0:=by simpa using ht33
    exact h
   have h30:ps.length≤30:=by omega
   refine T.loop (ι:=Nat) (fun i=>i≤ps.length∧∀ p∈ps.take i,p.2.1.length≤30) (fun i=>[(0,.slice fa fl.length fc),(1,.slice ca cells.length cc),(3,.slice ra ps.length rc),(6,ptr b6),(8,.slice none 0 0),(9,.int .i64 0),(38,.slice ra ps.length rc),(39,.int .i64 (ps.length:Int)),(40,.int .i64 (i:Int))]) (fun _=>[(b30,Obj.cells #[.slice ca cells.length cc] 22 (0,0))]::[(b6,Obj.cells #[.int .i64 top.1,.int .i64 top.2] 25 (0,0))]::η) (fun i=>ps.length - i) 0 ⟨Nat.zero_le _,by simp⟩ ⟨rfl,rfl,rfl,rfl,rfl,rfl,rfl,rfl,rfl,trivial⟩ rfl ?_
   rintro i ⟨hi,hno⟩
   refine T.seq ?_
   refine T.region ?_
   refine TL.bin hF rfl rfl rfl rfl ?_
   refine TL.nil ?_
   refine TQ.then_n ?_
   refine T.seq ?_
   first | refine T.cond_d rfl (fun ht41=>?_) (fun ht41=>?_) | refine T.cond _ rfl (fun ht41=>?_) (fun ht41=>?_)
   ·refine T.skip ?_
    refine TQ.then_n ?_
    refine T.seq ?_
    refine T.block ?_
    refine T.seq ?_
    refine T.region ?_
    have hil:i<ps.length:=by have h:(i:Int)<(ps.length:Int):=ht41; omega
    refine TL.indexAddr hF rfl rfl (hr.ad hil) (by omega) (by omega) rfl ?_
    refine TL.load hF rfl ((hr.up (by simp)).at (i:=i) hil) rfl ?_
    refine TL.assign hF rfl rfl ?_
    refine TL.nil ?_
    refine TQ.then_n ?_
    refine T.seq ?_
    refine T.region ?_
    refine TL.move hF rfl rfl ?_
    refine TL.len hF rfl rfl ?_
    refine TL.bin hF rfl rfl rfl rfl ?_
    refine TL.nil ?_
    refine TQ.then_n ?_
    first | refine T.cond_d rfl (fun ht46=>?_) (fun ht46=>?_) | refine T.cond _ rfl (fun ht46=>?_) (fun ht46=>?_)
    ·refine T.seq ?_
     refine T.region ?_
     refine TL.assign hF rfl rfl ?_
     refine TL.assign hF rfl rfl ?_
     refine TL.nil ?_
     refine TQ.then_n ?_
     refine T.ret ?_
     refine TQ.block_r ?_
     refine TQ.then_r ?_
     refine TQ.then_r ?_
     refine TQ.block_r ?_
     refine TQ.then_r ?_
     have hlong:longS (erounds ps)=true:=long_one hil (by omega)
     refine TQ.hsub η (List.Sublist.cons _ (List.sublist_cons_self _ _)) ?_
     refine TQ.rets [8,9] _ rfl rfl rfl ?_
     refine ⟨none,0,[],[],?_,?_,RL.none,Nat.le_refl _,rfl⟩
     ·unfold playS; rw [if_pos hask,hlong]; rfl
     ·unfold playS; rw [if_pos hask,hlong]; rfl
    ·refine T.skip ?_
     refine TQ.block_n ?_
     refine TQ.then_n ?_
     refine T.region ?_
     refine TL.add hF rfl rfl (by omega) (by omega) rfl ?_
     refine TL.move hF rfl rfl ?_
     refine TL.nil ?_
     refine TQ.round (i+1) ⟨by omega,fun p hp=>?_⟩ (by omega) ⟨rfl,rfl,rfl,rfl,rfl,rfl,rfl,rfl,rfl,trivial⟩ rfl
     rw [List.take_succ_eq_append_getElem hil] at hp
     rcases List.mem_append.1 hp with h | h
     ·exact hno p h
     ·rw [List.mem_singleton.1 h]; omega
   ·refine T.exit ?_
    refine TQ.then_x ?_
    refine TQ.then_x ?_
    refine TQ.block_x ?_
    refine TQ.then_n ?_
    refine T.seq ?_
    refine T.seq ?_
    refine T.region ?_
    refine TL.move hF rfl rfl ?_
    refine TL.len hF rfl rfl ?_
    refine TL.move hF rfl rfl ?_
    refine TL.nil ?_
    refine TQ.then_n ?_
    refine T.block ?_
    have hin:i=ps.length:=by have h:¬ (i:Int)<(ps.length:Int):=ht41; omega
    subst hin
    rw [List.take_length] at hno
    have hlong:=long_no h30 hno
    refine T.loop (ι:=Nat) (fun i=>i≤ps.length∧∀ p∈ps.take i,∀ x∈p.2.1,okEdit cells.length x=true) (fun i=>[(0,.slice fa fl.length fc),(1,.slice ca cells.length cc),(3,.slice ra ps.length rc),(6,ptr b6),(8,.slice none 0 0),(9,.int .i64 0),(48,.slice ra ps.length rc),(49,.int .i64 (ps.length:Int)),(50,.int .i64 (i:Int))]) (fun _=>[(b30,Obj.cells #[.slice ca cells.length cc] 22 (0,0))]::[(b6,Obj.cells #[.int .i64 top.1,.int .i64 top.2] 25 (0,0))]::η) (fun i=>ps.length - i) 0 ⟨Nat.zero_le _,by simp⟩ ⟨rfl,rfl,rfl,rfl,rfl,rfl,rfl,rfl,rfl,trivial⟩ rfl ?_
    rintro i ⟨hi,hok⟩
    refine T.seq ?_
    refine T.region ?_
    refine TL.bin hF rfl rfl rfl rfl ?_
    refine TL.nil ?_
    refine TQ.then_n ?_
    refine T.seq ?_
    first | refine T.cond_d rfl (fun ht51=>?_) (fun ht51=>?_) | refine T.cond _ rfl (fun ht51=>?_) (fun ht51=>?_)
    ·refine T.skip ?_
     refine TQ.then_n ?_
     refine T.seq ?_
     refine T.block ?_
     refine T.seq ?_
     refine T.region ?_
     have hil:i<ps.length:=by have h:(i:Int)<(ps.length:Int):=ht51; omega
     refine TL.indexAddr hF rfl rfl (hr.ad hil) (by omega) (by omega) rfl ?_
     refine TL.load hF rfl ((hr.up (by simp)).at (i:=i) hil) rfl ?_
     refine TL.assign hF rfl rfl ?_
     refine TL.nil ?_
     refine TQ.then_n ?_
     refine T.seq ?_
     refine T.region ?_
     refine TL.move hF rfl rfl ?_
     refine TL.len hF rfl rfl ?_
     refine TL.move hF rfl rfl ?_
     refine TL.nil ?_
     refine TQ.then_n ?_
     refine T.block ?_
     have hpl:=hno _ (List.getElem_mem hil)
     refine T.loop (ι:=Nat) (fun j=>j≤ps[i].2.1.length∧∀ x∈ps[i].2.1.take j,okEdit cells.length x=true) (fun j=>[(0,.slice fa fl.length fc),(1,.slice ca cells.length cc),(3,.slice ra ps.length rc),(6,ptr b6),(8,.slice none 0 0),(9,.int .i64 0),(48,.slice ra ps.length rc),(49,.int .i64 (ps.length:Int)),(50,.int .i64 (i:Int)),(54,.slice ps[i].1 ps[i].2.1.length ps[i].2.2),(55,.int .i64 (ps[i].2.1.length:Int)),(56,.int .i64 (j:Int))]) (fun _=>[(b30,Obj.cells #[.slice ca cells.length cc] 22 (0,0))]::[(b6,Obj.cells #[.int .i64 top.1,.int .i64 top.2] 25 (0,0))]::η) (fun j=>ps[i].2.1.length - j) 0 ⟨Nat.zero_le _,by simp⟩ ⟨rfl,rfl,rfl,rfl,rfl,rfl,rfl,rfl,rfl,rfl,rfl,rfl,trivial⟩ rfl ?_
     rintro j ⟨hj,hjk⟩
     refine T.seq ?_
     refine T.region ?_
     refine TL.bin hF rfl rfl rfl rfl ?_
     refine TL.nil ?_
     refine TQ.then_n ?_
     refine T.seq ?_
     first | refine T.cond_d rfl (fun ht57=>?_) (fun ht57=>?_) | refine T.cond _ rfl (fun ht57=>?_) (fun ht57=>?_)
     ·refine T.skip ?_
      refine TQ.then_n ?_
      refine T.seq ?_
      refine T.block ?_
      refine T.seq ?_
      refine T.region ?_
      have hjl:j<ps[i].2.1.length:=by have h:(j:Int)<(ps[i].2.1.length:Int):=ht57; omega
      have htk:ps[i].2.1.take (j+1)=ps[i].2.1.take j++[ps[i].2.1[j]]:=List.take_succ_eq_append_getElem hjl
      have hno2:=edits_no (m:=cells.length) hil hjl
      refine TL.indexAddr hF rfl rfl ((hr.it hil).tad kC_len (by decide) hjl) (by omega) (by omega) rfl ?_
      refine TL.loadA hF (kC ps[i].2.1[j]) rfl rfl ((hr.it hil).ro.tabA kC_len (i:=j) hjl) rfl ?_
      refine TL.alloc hF rfl (fun b16=>?_)
      generalize hxx:ps[i].2.1[j]=x at htk hno2 ⊢
      refine TL.storeAI hF (kC x) 0 rfl rfl rfl rfl (kC1 _) (by simp [Value.cells,kC]) ?_
      refine TL.nil ?_
      refine TQ.then_n ?_
      refine T.seq ?_
      refine T.region ?_
      refine TL.fieldAddr hF rfl rfl ?_
      refine TL.load hF rfl (by first | exact At.own' (i:=0) rfl rfl | exact At.own' (i:=1) rfl rfl | exact At.own' (i:=2) rfl rfl | exact At.own' (i:=3) rfl rfl | exact At.own' (i:=4) rfl rfl | exact At.own' (i:=5) rfl rfl | exact At.own' (i:=6) rfl rfl | exact At.own' (i:=7) rfl rfl | exact At.own' (i:=8) rfl rfl | exact At.own' (i:=9) rfl rfl | exact At.own' (i:=10) rfl rfl | exact At.own' (i:=11) rfl rfl | exact At.own' (i:=12) rfl rfl) rfl ?_
      refine TL.bin hF rfl rfl rfl rfl ?_
      refine TL.move hF rfl rfl ?_
      refine TL.gd (t:=63) rfl (fun g18_63=>?_) (fun g18_63=>?_)
      ·refine TL.off hF rfl rfl rfl (decide_eq_true g18_63) rfl ?_
       refine TL.off hF rfl rfl rfl (decide_eq_true g18_63) rfl ?_
       refine TL.off hF rfl rfl rfl (decide_eq_true g18_63) rfl ?_
       refine TL.off hF rfl rfl rfl (decide_eq_true g18_63) rfl ?_
       refine TL.off hF rfl rfl rfl (decide_eq_true g18_63) rfl ?_
       refine TL.pickT hF rfl (decide_eq_true g18_63) rfl rfl ?_
       refine TL.move hF rfl rfl ?_
       refine TL.off hF rfl rfl rfl rfl rfl ?_
       refine TL.off hF rfl rfl rfl rfl rfl ?_
       refine TL.off hF rfl rfl rfl rfl rfl ?_
       refine TL.off hF rfl rfl rfl rfl rfl ?_
       refine TL.pickT hF rfl rfl rfl rfl ?_
       refine TL.nil ?_
       refine TQ.then_n ?_
       refine T.cond_t rfl rfl ?_
       refine T.seq ?_
       refine T.region ?_
       refine TL.assign hF rfl rfl ?_
       refine TL.assign hF rfl rfl ?_
       refine TL.nil ?_
       refine TQ.then_n ?_
       refine T.ret ?_
       refine TQ.block_r ?_
       refine TQ.then_r ?_
       refine TQ.then_r ?_
       refine TQ.block_r ?_
       refine TQ.block_r ?_
       refine TQ.then_r ?_
       refine TQ.then_r ?_
       refine TQ.block_r ?_
       refine TQ.then_r ?_
       have hbad:okEdit cells.length x=false:=by
        rw [← Bool.not_eq_true,okEdit_iff]
        rintro ⟨q1,q2,q3⟩
        omega
       refine TQ.hsub η (List.Sublist.cons _ (List.Sublist.cons _ (List.sublist_cons_self _ _))) ?_
       refine TQ.rets [8,9] _ rfl rfl rfl ?_
       refine ⟨none,0,[],[],?_,?_,RL.none,Nat.le_refl _,rfl⟩
       ·unfold playS; rw [if_pos hask,hlong,hno2 hbad]; rfl
       ·unfold playS; rw [if_pos hask,hlong,hno2 hbad]; rfl
      ·refine TL.on rfl rfl rfl (decide_eq_false g18_63) ?_
       refine TL.fieldAddr hF rfl rfl ?_
       refine TL.on rfl rfl rfl (decide_eq_false g18_63) ?_
       refine TL.load hF rfl (by first | exact At.own' (i:=0) rfl rfl | exact At.own' (i:=1) rfl rfl | exact At.own' (i:=2) rfl rfl | exact At.own' (i:=3) rfl rfl | exact At.own' (i:=4) rfl rfl | exact At.own' (i:=5) rfl rfl | exact At.own' (i:=6) rfl rfl | exact At.own' (i:=7) rfl rfl | exact At.own' (i:=8) rfl rfl | exact At.own' (i:=9) rfl rfl | exact At.own' (i:=10) rfl rfl | exact At.own' (i:=11) rfl rfl | exact At.own' (i:=12) rfl rfl) rfl ?_
       refine TL.on rfl rfl rfl (decide_eq_false g18_63) ?_
       refine TL.move hF rfl rfl ?_
       refine TL.on rfl rfl rfl (decide_eq_false g18_63) ?_
       refine TL.len hF rfl rfl ?_
       refine TL.on rfl rfl rfl (decide_eq_false g18_63) ?_
       refine TL.bin hF rfl rfl rfl rfl ?_
       refine TL.pickF hF rfl (decide_eq_false g18_63) rfl rfl ?_
       refine TL.move hF rfl rfl ?_
       refine TL.gd (t:=70) rfl (fun g18_70=>?_) (fun g18_70=>?_)
       ·refine TL.off hF rfl rfl rfl (decide_eq_true g18_70) rfl ?_
        refine TL.off hF rfl rfl rfl (decide_eq_true g18_70) rfl ?_
        refine TL.off hF rfl rfl rfl (decide_eq_true g18_70) rfl ?_
        refine TL.off hF rfl rfl rfl (decide_eq_true g18_70) rfl ?_
        refine TL.pickT hF rfl (decide_eq_true g18_70) rfl rfl ?_
        refine TL.nil ?_
        refine TQ.then_n ?_
        refine T.cond_t rfl rfl ?_
        refine T.seq ?_
        refine T.region ?_
        refine TL.assign hF rfl rfl ?_
        refine TL.assign hF rfl rfl ?_
        refine TL.nil ?_
        refine TQ.then_n ?_
        refine T.ret ?_
        refine TQ.block_r ?_
        refine TQ.then_r ?_
        refine TQ.then_r ?_
        refine TQ.block_r ?_
        refine TQ.block_r ?_
        refine TQ.then_r ?_
        refine TQ.then_r ?_
        refine TQ.block_r ?_
        refine TQ.then_r ?_
        have hbad:okEdit cells.length x=false:=by
         rw [← Bool.not_eq_true,okEdit_iff]
         rintro ⟨q1,q2,q3⟩
         omega
        refine TQ.hsub η (List.Sublist.cons _ (List.Sublist.cons _ (List.sublist_cons_self _ _))) ?_
        refine TQ.rets [8,9] _ rfl rfl rfl ?_
        refine ⟨none,0,[],[],?_,?_,RL.none,Nat.le_refl _,rfl⟩
        ·unfold playS; rw [if_pos hask,hlong,hno2 hbad]; rfl
        ·unfold playS; rw [if_pos hask,hlong,hno2 hbad]; rfl
       ·refine TL.on rfl rfl rfl (decide_eq_false g18_70) ?_
        refine TL.fieldAddr hF rfl rfl ?_
        refine TL.on rfl rfl rfl (decide_eq_false g18_70) ?_
        refine TL.load hF rfl (by first | exact At.own' (i:=0) rfl rfl | exact At.own' (i:=1) rfl rfl | exact At.own' (i:=2) rfl rfl | exact At.own' (i:=3) rfl rfl | exact At.own' (i:=4) rfl rfl | exact At.own' (i:=5) rfl rfl | exact At.own' (i:=6) rfl rfl | exact At.own' (i:=7) rfl rfl | exact At.own' (i:=8) rfl rfl | exact At.own' (i:=9) rfl rfl | exact At.own' (i:=10) rfl rfl | exact At.own' (i:=11) rfl rfl | exact At.own' (i:=12) rfl rfl) rfl ?_
        refine TL.on rfl rfl rfl (decide_eq_false g18_70) ?_
        refine TL.callV hF (isWord_fn _) rfl rfl ?_
        refine TL.on rfl rfl rfl (decide_eq_false g18_70) ?_
        refine TL.not hF rfl rfl ?_
        refine TL.pickF hF rfl (decide_eq_false g18_70) rfl rfl ?_
        refine TL.nil ?_
        refine TQ.then_n ?_
        first | refine T.cond_d rfl (fun ht75=>?_) (fun ht75=>?_) | refine T.cond _ rfl (fun ht75=>?_) (fun ht75=>?_)
        ·refine T.seq ?_
         refine T.region ?_
         refine TL.assign hF rfl rfl ?_
         refine TL.assign hF rfl rfl ?_
         refine TL.nil ?_
         refine TQ.then_n ?_
         refine T.ret ?_
         refine TQ.block_r ?_
         refine TQ.then_r ?_
         refine TQ.then_r ?_
         refine TQ.block_r ?_
         refine TQ.block_r ?_
         refine TQ.then_r ?_
         refine TQ.then_r ?_
         refine TQ.block_r ?_
         refine TQ.then_r ?_
         have hbad:okEdit cells.length x=false:=by
          rw [← Bool.not_eq_true,okEdit_iff]
          rintro ⟨q1,q2,q3⟩
          have:isW x.2=false:=by simpa using ht75
          rw [q3] at this; cases this
         refine TQ.hsub η (List.Sublist.cons _ (List.Sublist.cons _ (List.sublist_cons_self _ _))) ?_
         refine TQ.rets [8,9] _ rfl rfl rfl ?_
         refine ⟨none,0,[],[],?_,?_,RL.none,Nat.le_refl _,rfl⟩
         ·unfold playS; rw [if_pos hask,hlong,hno2 hbad]; rfl
         ·unfold playS; rw [if_pos hask,hlong,hno2 hbad]; rfl
        ·refine T.skip ?_
         refine TQ.block_n ?_
         refine TQ.then_n ?_
         refine T.region ?_
         refine TL.add hF rfl rfl (by omega) (by omega) rfl ?_
         refine TL.move hF rfl rfl ?_
         refine TL.nil ?_
         have hxk:okEdit cells.length x=true:=okEdit_iff.2 ⟨by omega,by omega,by simpa using ht75⟩
         refine TQ.pop ?_
         refine TQ.round (j+1) ⟨by omega,fun y hy=>?_⟩ (by omega) ⟨rfl,rfl,rfl,rfl,rfl,rfl,rfl,rfl,rfl,rfl,rfl,rfl,trivial⟩ rfl
         rw [htk] at hy
         rcases List.mem_append.1 hy with h | h
         ·exact hjk y h
         ·rw [List.mem_singleton.1 h]; exact hxk
     ·refine T.exit ?_
      refine TQ.then_x ?_
      refine TQ.then_x ?_
      refine TQ.block_x ?_
      refine TQ.block_n ?_
      refine TQ.then_n ?_
      refine T.region ?_
      refine TL.add hF rfl rfl (by omega) (by omega) rfl ?_
      refine TL.move hF rfl rfl ?_
      refine TL.nil ?_
      have hjn:ps[i].2.1.length≤j:=by have h:¬ (j:Int)<(ps[i].2.1.length:Int):=ht57; omega
      rw [List.take_of_length_le hjn] at hjk
      refine TQ.round (i+1) ⟨by omega,fun p hp=>?_⟩ (by omega) ⟨rfl,rfl,rfl,rfl,rfl,rfl,rfl,rfl,rfl,trivial⟩ rfl
      rw [List.take_succ_eq_append_getElem hil] at hp
      rcases List.mem_append.1 hp with h | h
      ·exact hok p h
      ·rw [List.mem_singleton.1 h]; exact hjk
    ·refine T.exit ?_
     refine TQ.then_x ?_
     refine TQ.then_x ?_
     refine TQ.block_x ?_
     refine TQ.then_n ?_
     refine T.seq ?_
     refine T.region ?_
     refine TL.move hF rfl rfl ?_
     refine TL.move hF rfl rfl ?_
     refine TL.loadA hF [.int .i64 top.1,.int .i64 top.2] rfl rfl (own_list (i:=1) rfl) rfl ?_
     have hin:i=ps.length:=by have h:¬ (i:Int)<(ps.length:Int):=ht51; omega
     subst hin
     rw [List.take_length] at hok
     have hyes:=edits_yes hok
     obtain ⟨hs,hk⟩:=scn_of hask
     refine TL.call hF (traced_fn (ca:=ca) (cc:=cc) hT hf hc hs hk) rfl rfl ?_
     rintro _ _ ⟨tb,mb,m,rfl,htv,rfl⟩
     refine TL.move hF rfl rfl ?_
     refine TL.extract hF rfl rfl rfl ?_
     refine TL.extract hF rfl rfl rfl ?_
     refine TL.assign hF rfl rfl ?_
     refine TL.assign hF rfl rfl ?_
     refine TL.nil ?_
     refine TQ.then_n ?_
     refine T.seq ?_
     refine T.region ?_
     refine TL.assign hF rfl rfl ?_
     refine TL.nil ?_
     refine TQ.then_n ?_
     refine T.seq ?_
     refine T.seq ?_
     refine T.region ?_
     refine TL.move hF rfl rfl ?_
     refine TL.len hF rfl rfl ?_
     refine TL.move hF rfl rfl ?_
     refine TL.nil ?_
     refine TQ.then_n ?_
     refine T.block ?_
     have hplay:playS (fl.map TE.ex) cells top (erounds ps)=(roundsS (fl.map TE.ex) top (erounds ps) cells (traceS (fl.map TE.ex) cells top),0):=by
      unfold playS; rw [if_pos hask,hlong,hyes]; rfl
     refine T.hnil ?_
     refine T.loop (ι:=PS) (fun s=>s.i≤ps.length∧s.l.length=s.i∧TV S w0 s.tb s.mb (callsS (fl.map TE.ex) s.cur top).1 ⟨s.es,s.clock,s.pl,s.H⟩∧(∀ x∈s.l,RM S w0 s.H x)∧Row S w0 s.H s.ca (ints s.cur)∧s.cur.length=cells.length∧askedS (fl.map TE.ex) s.cur top=0∧s.l.map (·.r)++roundsS (fl.map TE.ex) top ((erounds ps).drop s.i) s.cur (traceS (fl.map TE.ex) s.cur top)=roundsS (fl.map TE.ex) top (erounds ps) cells (traceS (fl.map TE.ex) cells top)∧OSl 48 5 (.slice s.a s.l.length s.c) s.l.length (s.l.flatMap rhC) s.g) (fun s=>[(0,.slice fa fl.length fc),(1,.slice s.ca cells.length s.cc),(6,ptr b6),(8,.slice none 0 0),(9,.int .i64 0),(17,ptr s.tb),(19,.slice s.a s.l.length s.c),(85,.slice ra ps.length rc),(86,.int .i64 (ps.length:Int)),(87,.int .i64 (s.i:Int))]) (fun s=>s.g::[(s.mb,.map s.es s.clock)]::(s.H++([(b30,Obj.cells #[.slice ca cells.length cc] 22 (0,0))]::[(b6,Obj.cells #[.int .i64 top.1,.int .i64 top.2] 25 (0,0))]::η))) (fun s=>ps.length - s.i) ⟨0,[],none,0,[],tb,mb,m.es,m.clock,m.l,cells,ca,cc,m.hc⟩ ⟨Nat.zero_le _,rfl,htv,by simp,hc.ro,rfl,hask,rfl,OSl.nil _ _⟩ ⟨rfl,rfl,rfl,rfl,rfl,rfl,rfl,rfl,rfl,rfl,trivial⟩ rfl ?_
     rintro ⟨i,l,oa,oc,og,tb,mb,es,clock,pl,cur,ca',cc',H⟩ ⟨hi,hll,htv,hrl,hcur,hcl2,hask2,hsum,ho⟩
     dsimp only at hi hll htv hrl hcur hcl2 hask2 hsum ho
     refine T.seq ?_
     refine T.region ?_
     refine TL.bin hF rfl rfl rfl rfl ?_
     refine TL.nil ?_
     refine TQ.then_n ?_
     refine T.seq ?_
     first | refine T.cond_d rfl (fun ht88=>?_) (fun ht88=>?_) | refine T.cond _ rfl (fun ht88=>?_) (fun ht88=>?_)
     ·refine T.skip ?_
      refine TQ.then_n ?_
      refine T.seq ?_
      refine T.block ?_
      refine T.seq ?_
      refine T.region ?_
      have hil:i<ps.length:=by have h:(i:Int)<(ps.length:Int):=ht88; omega
      refine TL.indexAddr hF rfl rfl (hr.ad hil) (by dsimp only; omega) (by dsimp only; omega) rfl ?_
      refine TL.load hF rfl ((hr.up (by simp)).at (i:=i) hil) rfl ?_
      refine TL.assign hF rfl rfl ?_
      refine TL.nil ?_
      refine TQ.then_n ?_
      refine T.seq ?_
      refine T.region ?_
      refine TL.move hF rfl rfl ?_
      have hcc:=hs.c2
      obtain ⟨hs2,hk2⟩:=scn_of hask2
      refine TL.call hF (Clone_fn (n:=cells.length) (hcur.up (by intro s hs; simp [hs])) (by simp [hcl2]) (ints1 _) (by have:=hs.c2; omega)) rfl rfl ?_
      rintro _ _ ⟨na,nc,cg,rfl,hcg,rfl⟩
      refine TL.hperm (H++(cg::og::[(mb,.map es clock)]::([(b30,Obj.cells #[.slice ca cells.length cc] 22 (0,0))]::[(b6,Obj.cells #[.int .i64 top.1,.int .i64 top.2] 25 (0,0))]::η))) (perm_cnt fun f=>by simp only [List.map_append,List.map_cons,List.sum_append,List.sum_cons]; omega) ?_
      refine TL.freeze2 H rfl (fun S1 w1 hz1 hback1=>?_)
      have htf:=tf_of hs2 hk2 htv.mm.nds
      have ht:=hz1.get _ _ htv.t
      have hcm:∀ x∈pl,CM S1 w1 [] tb x:=fun x hx=>(htv.mm.mem x hx).map fun a v h=>hz1.get a v h
      have hT1:=hT.old hz1
      have hf1:=hf.old hz1
      refine TL.assign hF rfl rfl ?_
      refine TL.nil ?_
      refine TQ.then_n ?_
      refine T.seq ?_
      refine T.seq ?_
      refine T.region ?_
      refine TL.move hF rfl rfl ?_
      refine TL.len hF rfl rfl ?_
      refine TL.move hF rfl rfl ?_
      refine TL.nil ?_
      refine TQ.then_n ?_
      refine T.block ?_
      have hpl:=hno _ (List.getElem_mem hil)
      have hpok:=hok _ (List.getElem_mem hil)
      obtain ⟨gb,gcap,gcur,hgv,rfl,hgsz⟩:=OSl.ex hcg (by have:=hs.c1; omega)
      simp only [Value.slice.injEq,true_and] at hgv
      obtain ⟨rfl,rfl⟩:=hgv
      refine T.loop (ι:=Nat × Array Value) (fun s=>s.1≤ps[i].2.1.length∧OSl 3 1 (.slice (some ⟨gb,0,none⟩) cells.length nc) cells.length (ints (editS cur (ps[i].2.1.take s.1))) [(gb,.cells s.2 3 (0,0))]) (fun s=>[(0,.slice fa fl.length fc),(1,.slice (some ⟨gb,0,none⟩) cells.length nc),(6,ptr b6),(8,.slice none 0 0),(9,.int .i64 0),(17,ptr tb),(19,.slice oa l.length oc),(85,.slice ra ps.length rc),(86,.int .i64 (ps.length:Int)),(87,.int .i64 (i:Int)),(93,.slice ps[i].1 ps[i].2.1.length ps[i].2.2),(94,.int .i64 (ps[i].2.1.length:Int)),(95,.int .i64 (s.1:Int))]) (fun s=>[(gb,.cells s.2 3 (0,0))]::og::[(mb,.map es clock)]::([(b30,Obj.cells #[.slice ca cells.length cc] 22 (0,0))]::[(b6,Obj.cells #[.int .i64 top.1,.int .i64 top.2] 25 (0,0))]::η)) (fun s=>ps[i].2.1.length - s.1) (0,gcur) ⟨Nat.zero_le _,hcg⟩ ⟨rfl,rfl,rfl,rfl,rfl,rfl,rfl,rfl,rfl,rfl,rfl,rfl,rfl,trivial⟩ rfl ?_
      rintro ⟨j,gcur⟩ ⟨hj,hcg⟩
      dsimp only at hj hcg
      refine T.seq ?_
      refine T.region ?_
      refine TL.bin hF rfl rfl rfl rfl ?_
      refine TL.nil ?_
      refine TQ.then_n ?_
      refine T.seq ?_
      first | refine T.cond_d rfl (fun ht96=>?_) (fun ht96=>?_) | refine T.cond _ rfl (fun ht96=>?_) (fun ht96=>?_)
      ·refine T.skip ?_
       refine TQ.then_n ?_
       refine T.seq ?_
       refine T.block ?_
       refine T.seq ?_
       refine T.region ?_
       have hjl:j<ps[i].2.1.length:=by have h:(j:Int)<(ps[i].2.1.length:Int):=ht96; omega
       have htk:ps[i].2.1.take (j+1)=ps[i].2.1.take j++[ps[i].2.1[j]]:=List.take_succ_eq_append_getElem hjl
       have hxok:=okEdit_iff.1 (hpok _ (List.getElem_mem hjl))
       have hrit:=Row.old (hr.it hil) hz1
       refine TL.indexAddr hF rfl rfl (hrit.tad kC_len (by decide) hjl) (by dsimp only; omega) (by dsimp only; omega) rfl ?_
       refine TL.loadA hF (kC ps[i].2.1[j]) rfl rfl (hrit.ro.tabA kC_len (i:=j) hjl) rfl ?_
       refine TL.alloc hF rfl (fun b23=>?_)
       generalize hxx:ps[i].2.1[j]=x at htk hxok ⊢
       refine TL.storeAI hF (kC x) 0 rfl rfl rfl rfl (kC1 _) (by simp [Value.cells,kC]) ?_
       refine TL.nil ?_
       refine TQ.then_n ?_
       refine T.region ?_
       refine TL.move hF rfl rfl ?_
       refine TL.fieldAddr hF rfl rfl ?_
       refine TL.load hF rfl (by first | exact At.own' (i:=0) rfl rfl | exact At.own' (i:=1) rfl rfl | exact At.own' (i:=2) rfl rfl | exact At.own' (i:=3) rfl rfl | exact At.own' (i:=4) rfl rfl | exact At.own' (i:=5) rfl rfl | exact At.own' (i:=6) rfl rfl | exact At.own' (i:=7) rfl rfl | exact At.own' (i:=8) rfl rfl | exact At.own' (i:=9) rfl rfl | exact At.own' (i:=10) rfl rfl | exact At.own' (i:=11) rfl rfl | exact At.own' (i:=12) rfl rfl) rfl ?_
       refine TL.fieldAddr hF rfl rfl ?_
       refine TL.load hF rfl (by first | exact At.own' (i:=0) rfl rfl | exact At.own' (i:=1) rfl rfl | exact At.own' (i:=2) rfl rfl | exact At.own' (i:=3) rfl rfl | exact At.own' (i:=4) rfl rfl | exact At.own' (i:=5) rfl rfl | exact At.own' (i:=6) rfl rfl | exact At.own' (i:=7) rfl rfl | exact At.own' (i:=8) rfl rfl | exact At.own' (i:=9) rfl rfl | exact At.own' (i:=10) rfl rfl | exact At.own' (i:=11) rfl rfl | exact At.own' (i:=12) rfl rfl) rfl ?_
       have hgs:cells.length≤gcur.size:=by
        obtain ⟨g9,c9,cur9,e9,s9,z9⟩:=OSl.ex hcg (by have:=hs.c1; omega)
        simp only [List.cons.injEq,Prod.mk.injEq,Obj.cells.injEq,and_true] at s9
        rw [← s9.2] at z9; omega
       refine TL.indexAddr hF rfl rfl ⟨_,rfl,rfl⟩ hxok.1 (by have:=hxok.2.1; omega) rfl ?_
       refine TL.storeI hF 1 rfl rfl rfl rfl (by have h1:=hxok.2.1; have h2:=hxok.1; have h3:=hgs; simp; omega) ?_
       refine TL.nil ?_
       refine TQ.block_n ?_
       refine TQ.then_n ?_
       refine T.region ?_
       refine TL.add hF rfl rfl (by omega) (by omega) rfl ?_
       refine TL.move hF rfl rfl ?_
       refine TL.nil ?_
       have hput:=hcg.put (j:=x.1.toNat) (u:=.int .i64 x.2)
       have hset:(ints (editS cur (ps[i].2.1.take j))).set x.1.toNat (.int .i64 x.2)=ints (editS cur (ps[i].2.1.take (j+1))):=by
        rw [htk,editS_snoc]; unfold ints; rw [List.map_set]
       rw [hset] at hput
       have hoff:(sAt (some ⟨gb,0,none⟩) (x.1.toNat*1)).off=x.1.toNat:=by simp [sAt]
       refine TQ.pop ?_
       refine TQ.round (j+1,gcur.setIfInBounds x.1.toNat (.int .i64 x.2)) ⟨by dsimp only; omega,hput⟩ (by dsimp only; omega) ⟨rfl,rfl,rfl,rfl,rfl,rfl,rfl,rfl,rfl,rfl,rfl,rfl,rfl,trivial⟩ ?_
       exact congrArg (fun q=>([(gb,Obj.cells (gcur.setIfInBounds q (Value.int .i64 x.2)) 3 (0,0))]::og::[(mb,Obj.map es clock)]::([(b30,Obj.cells #[.slice ca cells.length cc] 22 (0,0))]::[(b6,Obj.cells #[.int .i64 top.1,.int .i64 top.2] 25 (0,0))]::η):Heap)) hoff
      ·refine T.exit ?_
       refine TQ.then_x ?_
       refine TQ.then_x ?_
       refine TQ.block_x ?_
       refine TQ.then_n ?_
       refine T.seq ?_
       refine T.region ?_
       refine TL.move hF rfl rfl ?_
       refine TL.move hF rfl rfl ?_
       refine TL.loadA hF [.int .i64 top.1,.int .i64 top.2] rfl rfl (own_list (i:=4) rfl) rfl ?_
       have hjn:ps[i].2.1.length≤j:=by have h:¬ (j:Int)<(ps[i].2.1.length:Int):=ht96; omega
       rw [List.take_of_length_le hjn] at hcg
       have hask3:askedS (fl.map TE.ex) (editS cur ps[i].2.1) top=0:=asked_edit hask2 fun x hx=>(okEdit_iff.1 (hpok x hx)).2.2
       obtain ⟨hs3,hk3⟩:=scn_of hask3
       have hnl:(editS cur ps[i].2.1).length=cells.length:=by rw [editS_len,hcl2]
       refine TL.freeze2 [[(gb,.cells gcur 3 (0,0))]] rfl (fun S2 w2 hz2 hback2=>?_)
       have hcrow:Row S2 w2 [] (some ⟨gb,0,none⟩) (ints (editS cur ps[i].2.1)):=(OSl.row hcg (by simp)).frz hz2
       refine TL.call hF (traced_fn' hnl.symm (ca:=some ⟨gb,0,none⟩) (cc:=nc) (hT1.old hz2) (hf1.old hz2) hcrow hs3 hk3) rfl rfl ?_
       rintro _ _ ⟨tn,mn,m2,rfl,htv2,rfl⟩
       refine TL.hperm (m2.hc++(mseg mn m2::og::[(mb,.map es clock)]::([(b30,Obj.cells #[.slice ca cells.length cc] 22 (0,0))]::[(b6,Obj.cells #[.int .i64 top.1,.int .i64 top.2] 25 (0,0))]::η))) permF ?_
       refine TL.freeze2 m2.hc rfl (fun S3 w3 hz3 hback3=>?_)
       have htf2:=tf_of hs3 hk3 htv2.mm.nds
       have ht2:=hz3.get _ _ htv2.t
       have hcm2:∀ x∈m2.l,CM S3 w3 [] tn x:=fun x hx=>(htv2.mm.mem x hx).map fun a v h=>hz3.get a v h
       have ht3:=hz3.old (hz2.old ht)
       have hcm3:∀ x∈pl,CM S3 w3 [] tb x:=fun x hx=>(hcm x hx).map fun a v h=>hz3.old (hz2.old h)
       refine TL.move hF rfl rfl ?_
       refine TL.extract hF rfl rfl rfl ?_
       refine TL.extract hF rfl rfl rfl ?_
       refine TL.assign hF rfl rfl ?_
       refine TL.assign hF rfl rfl ?_
       refine TL.nil ?_
       refine TQ.then_n ?_
       refine T.seq ?_
       refine T.region ?_
       refine TL.move hF rfl rfl ?_
       refine TL.move hF rfl rfl ?_
       refine TL.call hF (against_fn (R:=mseg mn m2::og::[(mb,.map es clock)]::([(b30,Obj.cells #[.slice ca cells.length cc] 22 (0,0))]::[(b6,Obj.cells #[.int .i64 top.1,.int .i64 top.2] 25 (0,0))]::η)) ht2 ht3 (by simp) (by simp) htv2.mm.obj htv.mm.obj hcm2 hcm3 htf2.len htf.len htf2.sm htf.sm htf2.nd htf.nd) rfl rfl ?_
       rintro _ _ ⟨x,segs,rfl,hxr,hrm,rfl⟩
       rw [htf.sort,htf2.sort] at hxr
       refine TL.alloc hF rfl (fun b26=>?_)
       refine TL.storeAs hF (rhC x) (rhC x) 0 (cs:=[.int .i64 0,.slice none 0 0,.slice none 0 0,.slice none 0 0,.slice none 0 0]) rfl rfl rfl rfl (rhC1 _) (Nat.le_refl 5) rfl ?_
       refine TL.nil ?_
       refine TQ.then_n ?_
       refine T.seq ?_
       refine T.region ?_
       refine TL.move hF rfl rfl ?_
       refine TL.fieldAddr hF rfl rfl ?_
       refine TL.storeI hF 0 rfl rfl rfl rfl (by simp [rhC]) ?_
       refine TL.heap (η':=[(b26,Obj.cells (rhC (x.setW (callsS (fl.map TE.ex) (editS cur ps[i].2.1) top).2)).toArray 48 (0,0))]::(segs++(mseg mn m2::og::[(mb,.map es clock)]::([(b30,Obj.cells #[.slice ca cells.length cc] 22 (0,0))]::[(b6,Obj.cells #[.int .i64 top.1,.int .i64 top.2] 25 (0,0))]::η)))) rfl ?_
       refine TL.nil ?_
       refine TQ.then_n ?_
       refine T.region ?_
       refine TL.move hF rfl rfl ?_
       refine TL.loadA hF (rhC (x.setW (callsS (fl.map TE.ex) (editS cur ps[i].2.1) top).2)) rfl rfl (own_list (i:=0) (cs:=rhC (x.setW (callsS (fl.map TE.ex) (editS cur ps[i].2.1) top).2)) rfl) rfl ?_
       refine TL.buildSlice hF rfl (cs:=(rhC (x.setW (callsS (fl.map TE.ex) (editS cur ps[i].2.1) top).2)).toArray) (e:=48) (fun w=>by kernel_rfl) rfl (fun bq=>?_)
       refine TL.hperm (og::[(bq,Obj.cells (rhC (x.setW (callsS (fl.map TE.ex) (editS cur ps[i].2.1) top).2)).toArray 48 (0,0))]::[(b26,Obj.cells (rhC (x.setW (callsS (fl.map TE.ex) (editS cur ps[i].2.1) top).2)).toArray 48 (0,0))]::(segs++(mseg mn m2::[(mb,.map es clock)]::([(b30,Obj.cells #[.slice ca cells.length cc] 22 (0,0))]::[(b6,Obj.cells #[.int .i64 top.1,.int .i64 top.2] 25 (0,0))]::η)))) (perm_cnt fun f=>?_) ?_
       ·simp only [List.map_append,List.map_cons,List.sum_append,List.sum_cons]; omega
       refine TL.append hF 0 rfl rfl rfl ho (row_own (cs:=rhC (x.setW (callsS (fl.map TE.ex) (editS cur ps[i].2.1) top).2)) (e:=48) (by simp)).src rfl rfl (rhC1 _) (by omega) (by omega) rfl (fun pa pc pg ph=>?_)
       rw [flat_snoc] at ph
       refine TL.move hF rfl rfl ?_
       refine TL.assign hF rfl rfl ?_
       refine TL.assign hF rfl rfl ?_
       refine TL.nil ?_
       refine TQ.block_n ?_
       refine TQ.then_n ?_
       refine T.region ?_
       refine TL.add hF rfl rfl (by omega) (by omega) rfl ?_
       refine TL.move hF rfl rfl ?_
       refine TL.nil ?_
       have hdr:(erounds ps).drop i=ps[i].2.1::(erounds ps).drop (i+1):=by
        unfold erounds
        rw [List.drop_eq_getElem_cons (by simpa using hil)]; simp
       refine TQ.thaw hz3 ?_
       refine TQ.thaw hz2 ?_
       refine TQ.thaw hz1 ?_
       refine TQ.hperm ([(mb,.map es clock)]::[(bq,Obj.cells (rhC (x.setW (callsS (fl.map TE.ex) (editS cur ps[i].2.1) top).2)).toArray 48 (0,0))]::[(b26,Obj.cells (rhC (x.setW (callsS (fl.map TE.ex) (editS cur ps[i].2.1) top).2)).toArray 48 (0,0))]::pg::mseg mn m2::((H++([[(gb,.cells gcur 3 (0,0))]]++(m2.hc++segs)))++([(b30,Obj.cells #[.slice ca cells.length cc] 22 (0,0))]::[(b6,Obj.cells #[.int .i64 top.1,.int .i64 top.2] 25 (0,0))]::η))) (perm_cnt fun f=>?_) ?_
       ·simp only [List.map_append,List.map_cons,List.sum_append,List.sum_cons,List.cons_append,List.nil_append,List.append_assoc,List.set_cons_zero]; omega
       refine TQ.pop (TQ.pop (TQ.pop ?_))
       have hlx:(l++[(x.setW (callsS (fl.map TE.ex) (editS cur ps[i].2.1) top).2)]).length=l.length+1:=by simp
       refine TQ.round ⟨i+1,l++[(x.setW (callsS (fl.map TE.ex) (editS cur ps[i].2.1) top).2)],pa,pc,pg,tn,mn,m2.es,m2.clock,m2.l,(editS cur ps[i].2.1),some ⟨gb,0,none⟩,nc,(H++([[(gb,.cells gcur 3 (0,0))]]++(m2.hc++segs)))⟩ ⟨by dsimp only; omega,by dsimp only; omega,?_,fun y hy=>?_,?_,hnl,hask3,?_,by dsimp only; rw [hlx]; exact ph⟩ (by dsimp only; omega) ⟨rfl,rfl,rfl,rfl,rfl,rfl,by rw [hlx]; rfl,rfl,rfl,rfl,trivial⟩ rfl
       ·exact ((htv2.up (h':=m2.hc++segs) (by intro s hs; simp [hs])).thaw hback2).thaw hback1
       ·rcases List.mem_append.1 hy with hy | hy
        ·exact (hrl y hy).up (by intro s hs; simp [hs])
        ·rw [List.mem_singleton.1 hy]
         have hx0:RM S3 w3 segs (x.setW (callsS (fl.map TE.ex) (editS cur ps[i].2.1) top).2):=⟨hrm.r1,hrm.r2,hrm.r3,hrm.r4⟩
         exact ((hx0.thaw hback3).thaw hback2).thaw hback1
       ·have h0:Row S1 w1 [[(gb,.cells gcur 3 (0,0))]] (some ⟨gb,0,none⟩) (ints (editS cur ps[i].2.1)):=OSl.row hcg (by simp)
        exact (h0.up (η':=[[(gb,.cells gcur 3 (0,0))]]++(m2.hc++segs)) (by simp)).thaw hback1
       ·dsimp only
        rw [← hsum,hdr,roundsS,List.map_append,List.append_assoc]
        congr 1
        rw [List.map_cons,List.map_nil,List.singleton_append]
        congr 1
        unfold RH.setW
        dsimp only
        rw [hxr]
        rfl
     ·refine T.exit ?_
      refine TQ.then_x ?_
      refine TQ.then_x ?_
      refine TQ.block_x ?_
      refine TQ.then_n ?_
      refine T.seq ?_
      refine T.region ?_
      refine TL.move hF rfl rfl ?_
      refine TL.assign hF rfl rfl ?_
      refine TL.assign hF rfl rfl ?_
      refine TL.nil ?_
      refine TQ.then_n ?_
      refine T.ret ?_
      have hin:i=ps.length:=by have h:¬ (i:Int)<(ps.length:Int):=ht88; omega
      subst hin
      rw [show (erounds ps).drop ps.length=[] from List.drop_of_length_le (by simp [erounds])] at hsum
      rw [roundsS,List.append_nil] at hsum
      refine TQ.hperm ([(mb,.map es clock)]::(og::(H++([(b30,Obj.cells #[.slice ca cells.length cc] 22 (0,0))]::[(b6,Obj.cells #[.int .i64 top.1,.int .i64 top.2] 25 (0,0))]::η)))) (List.Perm.swap _ _ _) ?_
      refine TQ.pop ?_
      refine TQ.hsub (og::(H++η)) (List.Sublist.cons_cons _ ((List.Sublist.refl H).append (List.Sublist.cons _ (List.sublist_cons_self _ _)))) ?_
      refine TQ.rets [8,9] _ rfl rfl rfl ?_
      refine ⟨oa,oc,l,og::H,?_,?_,⟨OSl.row ho (by simp),fun x hx=>(hrl x hx).up (by intro s hs; simp [hs])⟩,osl_cap ho,rfl⟩
      ·rw [hplay]; rfl
      ·rw [hplay]; exact hsum
end Go.Proofs.YtdiacobmhkmljaaDoor
/- The laws' leaves: lists held against one another; expressions; keys. -/
namespace Go.Proofs.YtdiacobmhkmljaaDoor
open Go.Sl
variable {S:Nat→Prop} {w0:World} {η:Heap}
set_option maxHeartbeats 2000000 in
theorem SameDeps_fn {a b : Option Addr} {xs ys : List Dp} {ca cb : Nat} (hx : Row S w0 η a (xs.flatMap dpC)) (hy : Row S w0 η b (ys.flatMap dpC)) (hl : xs.length < 2 ^ 63) :
  Rt Tryd.prog 43 [.slice a xs.length ca,.slice b ys.length cb].toArray S w0 η (fun v η'=>v = .bool (decide (xs=ys))∧η'=η):=by
 have hF:=open_wide
 refine Rt.of (fn:=Tryd.f43) Tryd.func43 rfl rfl ?_
 refine T.seq ?_
 refine T.region ?_
 refine TL.assign hF rfl rfl ?_
 refine TL.nil ?_
 refine TQ.then_n ?_
 refine T.seq ?_
 refine T.region ?_
 refine TL.move hF rfl rfl ?_
 refine TL.len hF rfl rfl ?_
 refine TL.move hF rfl rfl ?_
 refine TL.len hF rfl rfl ?_
 refine TL.bin hF rfl rfl rfl rfl ?_
 refine TL.assign hF rfl rfl ?_
 refine TL.nil ?_
 refine TQ.then_n ?_
 refine T.seq ?_
 refine T.seq ?_
 refine T.region ?_
 refine TL.assign hF rfl rfl ?_
 refine TL.nil ?_
 refine TQ.then_n ?_
 refine T.block ?_
 refine T.loop (ι:=Nat × Bool) (fun i=>i.1≤xs.length∧(i.2=true→xs.length=ys.length∧xs.take i.1=ys.take i.1)∧(i.2=false→xs≠ys)) (fun i=>[(0,.slice a xs.length ca),(1,.slice b ys.length cb),(5,.bool i.2),(6,.int .i64 (i.1:Int))]) (fun _=>η) (fun i=>xs.length - i.1) (0,decide ((xs.length:Int)=ys.length)) ⟨Nat.zero_le _,fun h=>⟨by simpa [Int.ofNat_inj] using h,by simp⟩,fun h e=>by subst e; simp at h⟩ ⟨rfl,rfl,rfl,rfl,trivial⟩ rfl ?_
 rintro ⟨k,s⟩ ⟨hk,hs1,hs2⟩
 simp only at hk hs1 hs2
 refine T.seq ?_
 refine T.seq ?_
 refine T.region ?_
 refine TL.move hF rfl rfl ?_
 refine TL.move hF rfl rfl ?_
 refine TL.gb (t:=13) rfl (fun g3_13=>?_) (fun g3_13=>?_)
 ·refine TL.on rfl rfl rfl g3_13 ?_
  refine TL.move hF rfl rfl ?_
  refine TL.on rfl rfl rfl g3_13 ?_
  refine TL.move hF rfl rfl ?_
  refine TL.on rfl rfl rfl g3_13 ?_
  refine TL.len hF rfl rfl ?_
  refine TL.on rfl rfl rfl g3_13 ?_
  refine TL.bin hF rfl rfl rfl rfl ?_
  refine TL.pickT hF rfl g3_13 rfl rfl ?_
  refine TL.nil ?_
  refine TQ.then_n ?_
  first | refine T.cond_d rfl (fun ht18=>?_) (fun ht18=>?_) | refine T.cond _ rfl (fun ht18=>?_) (fun ht18=>?_)
  ·refine T.skip ?_
   refine TQ.then_n ?_
   refine T.seq ?_
   refine T.block ?_
   have hkx:k<xs.length:=by omega
   have hky:k<ys.length:=by have:=(hs1 g3_13).1; omega
   refine T.draw ?_
   refine DR.stepV [_] rfl [(0,_,none)] rfl rfl ⟨⟨rfl,by kernel_rfl⟩,trivial⟩ (fun ext=>TL.move hF rfl rfl TL.fin) ?_
   refine DR.stepV [_,_] rfl [(6,_,none)] rfl rfl ⟨⟨rfl,by kernel_rfl⟩,trivial⟩ (fun ext=>TL.move hF rfl rfl TL.fin) ?_
   refine DR.stepV [_,_,_] rfl [(21,_,some 0),(22,_,some 1)] rfl rfl ⟨⟨rfl,rfl,rfl⟩,⟨rfl,rfl,rfl⟩,trivial⟩ (fun ext=>TL.indexAddr hF rfl rfl (hx.tad dpC_len (by decide) (i:=k) hkx) (by omega) (by omega) rfl TL.fin) ?_
   refine DR.stepV [_,_,_,_] rfl [(23,_,some 2)] rfl rfl ⟨⟨rfl,rfl,rfl⟩,trivial⟩ (fun ext=>TL.loadA hF (dpC xs[k]) rfl rfl (hx.tabA dpC_len (i:=k) hkx) rfl TL.fin) ?_
   refine DR.stepV [_,_,_,_,_] rfl [(1,_,none)] rfl rfl ⟨⟨rfl,by kernel_rfl⟩,trivial⟩ (fun ext=>TL.move hF rfl rfl TL.fin) ?_
   refine DR.stepV [_,_,_,_,_,_] rfl [(6,_,none)] rfl rfl ⟨⟨rfl,by kernel_rfl⟩,trivial⟩ (fun ext=>TL.move hF rfl rfl TL.fin) ?_
   refine DR.stepV [_,_,_,_,_,_,_] rfl [(25,_,some 4),(26,_,some 5)] rfl rfl ⟨⟨rfl,rfl,rfl⟩,⟨rfl,rfl,rfl⟩,trivial⟩ (fun ext=>TL.indexAddr hF rfl rfl (hy.tad dpC_len (by decide) (i:=k) hky) (by omega) (by omega) rfl TL.fin) ?_
   refine DR.stepV [_,_,_,_,_,_,_,_] rfl [(27,_,some 6)] rfl rfl ⟨⟨rfl,rfl,rfl⟩,trivial⟩ (fun ext=>TL.loadA hF (dpC ys[k]) rfl rfl (hy.tabA dpC_len (i:=k) hky) rfl TL.fin) ?_
   refine DR.done [(28,_),(27,_),(26,_),(25,_),(24,_),(23,_),(22,_),(21,_)] [_,_] mixed (by kernel_rfl) (by kernel_rfl) (by kernel_rfl) rfl rfl ?_
   refine TL.eqlA hF rfl rfl (by kernel_rfl) (eqD xs[k] ys[k]) rfl ?_
   refine TL.assign hF rfl rfl ?_
   refine TL.nil ?_
   refine TQ.block_n ?_
   refine TQ.then_n ?_
   refine T.region ?_
   refine TL.move hF rfl rfl ?_
   refine TL.add hF rfl rfl (by omega) (by omega) rfl ?_
   refine TL.assign hF rfl rfl ?_
   refine TL.nil ?_
   refine TQ.round (k+1,decide (xs[k]=ys[k])) ⟨by simp only; omega,fun h=>⟨(hs1 g3_13).1,take_succ_eq _ _ (hs1 g3_13).2 (of_decide_eq_true h)⟩,fun h=>ne_of_getElem _ _ (of_decide_eq_false h)⟩ (by simp only; omega) ⟨rfl,rfl,rfl,rfl,trivial⟩ rfl
  ·refine T.exit ?_
   refine TQ.then_x ?_
   refine TQ.then_x ?_
   refine TQ.block_x ?_
   refine TQ.then_n ?_
   refine T.seq ?_
   refine T.region ?_
   refine TL.move hF rfl rfl ?_
   refine TL.assign hF rfl rfl ?_
   refine TL.nil ?_
   refine TQ.then_n ?_
   refine T.ret ?_
   refine TQ.rets [4] _ rfl rfl rfl ?_
   subst g3_13
   have h1:=hs1 rfl
   have h2:xs=ys:=by have:=h1.2; rwa [List.take_of_length_le (by omega),List.take_of_length_le (by omega)] at this
   exact ⟨by simp [retVal,h2],rfl⟩
 ·refine TL.off hF rfl rfl rfl g3_13 rfl ?_
  refine TL.off hF rfl rfl rfl g3_13 rfl ?_
  refine TL.off hF rfl rfl rfl g3_13 rfl ?_
  refine TL.off hF rfl rfl rfl g3_13 rfl ?_
  refine TL.pickF hF rfl g3_13 rfl rfl ?_
  refine TL.nil ?_
  refine TQ.then_n ?_
  refine T.cond_f rfl rfl ?_
  refine T.exit ?_
  refine TQ.then_x ?_
  refine TQ.then_x ?_
  refine TQ.block_x ?_
  refine TQ.then_n ?_
  refine T.seq ?_
  refine T.region ?_
  refine TL.move hF rfl rfl ?_
  refine TL.assign hF rfl rfl ?_
  refine TL.nil ?_
  refine TQ.then_n ?_
  refine T.ret ?_
  refine TQ.rets [4] _ rfl rfl rfl ?_
  subst g3_13
  exact ⟨by simp [retVal,hs2 rfl],rfl⟩
set_option maxHeartbeats 2000000 in
theorem keysL_fn {a b : Option Addr} {xs ys : List Key} {ca cb : Nat} (hx : Row S w0 η a (xs.flatMap kC)) (hy : Row S w0 η b (ys.flatMap kC)) (hl : xs.length < 2 ^ 63) :
  Rt Tryd.prog 22 [.slice a xs.length ca,.slice b ys.length cb].toArray S w0 η (fun v η'=>v = .bool (decide (xs=ys))∧η'=η):=by
 have hF:=open_wide
 refine Rt.of (fn:=Tryd.f22) Tryd.func22 rfl rfl ?_
 refine T.seq ?_
 refine T.region ?_
 refine TL.assign hF rfl rfl ?_
 refine TL.nil ?_
 refine TQ.then_n ?_
 refine T.seq ?_
 refine T.region ?_
 refine TL.move hF rfl rfl ?_
 refine TL.len hF rfl rfl ?_
 refine TL.move hF rfl rfl ?_
 refine TL.len hF rfl rfl ?_
 refine TL.bin hF rfl rfl rfl rfl ?_
 refine TL.assign hF rfl rfl ?_
 refine TL.nil ?_
 refine TQ.then_n ?_
 refine T.seq ?_
 refine T.seq ?_
 refine T.region ?_
 refine TL.assign hF rfl rfl ?_
 refine TL.nil ?_
 refine TQ.then_n ?_
 refine T.block ?_
 refine T.loop (ι:=Nat × Bool) (fun i=>i.1≤xs.length∧(i.2=true→xs.length=ys.length∧xs.take i.1=ys.take i.1)∧(i.2=false→xs≠ys)) (fun i=>[(0,.slice a xs.length ca),(1,.slice b ys.length cb),(5,.bool i.2),(6,.int .i64 (i.1:Int))]) (fun _=>η) (fun i=>xs.length - i.1) (0,decide ((xs.length:Int)=ys.length)) ⟨Nat.zero_le _,fun h=>⟨by simpa [Int.ofNat_inj] using h,by simp⟩,fun h e=>by subst e; simp at h⟩ ⟨rfl,rfl,rfl,rfl,trivial⟩ rfl ?_
 rintro ⟨k,s⟩ ⟨hk,hs1,hs2⟩
 simp only at hk hs1 hs2
 refine T.seq ?_
 refine T.seq ?_
 refine T.region ?_
 refine TL.move hF rfl rfl ?_
 refine TL.move hF rfl rfl ?_
 refine TL.gb (t:=13) rfl (fun g3_13=>?_) (fun g3_13=>?_)
 ·refine TL.on rfl rfl rfl g3_13 ?_
  refine TL.move hF rfl rfl ?_
  refine TL.on rfl rfl rfl g3_13 ?_
  refine TL.move hF rfl rfl ?_
  refine TL.on rfl rfl rfl g3_13 ?_
  refine TL.len hF rfl rfl ?_
  refine TL.on rfl rfl rfl g3_13 ?_
  refine TL.bin hF rfl rfl rfl rfl ?_
  refine TL.pickT hF rfl g3_13 rfl rfl ?_
  refine TL.nil ?_
  refine TQ.then_n ?_
  first | refine T.cond_d rfl (fun ht18=>?_) (fun ht18=>?_) | refine T.cond _ rfl (fun ht18=>?_) (fun ht18=>?_)
  ·refine T.skip ?_
   refine TQ.then_n ?_
   refine T.seq ?_
   refine T.block ?_
   have hkx:k<xs.length:=by omega
   have hky:k<ys.length:=by have:=(hs1 g3_13).1; omega
   refine T.draw ?_
   refine DR.stepV [_] rfl [(0,_,none)] rfl rfl ⟨⟨rfl,by kernel_rfl⟩,trivial⟩ (fun ext=>TL.move hF rfl rfl TL.fin) ?_
   refine DR.stepV [_,_] rfl [(6,_,none)] rfl rfl ⟨⟨rfl,by kernel_rfl⟩,trivial⟩ (fun ext=>TL.move hF rfl rfl TL.fin) ?_
   refine DR.stepV [_,_,_] rfl [(21,_,some 0),(22,_,some 1)] rfl rfl ⟨⟨rfl,rfl,rfl⟩,⟨rfl,rfl,rfl⟩,trivial⟩ (fun ext=>TL.indexAddr hF rfl rfl (hx.tad kC_len (by decide) (i:=k) hkx) (by omega) (by omega) rfl TL.fin) ?_
   refine DR.stepV [_,_,_,_] rfl [(23,_,some 2)] rfl rfl ⟨⟨rfl,rfl,rfl⟩,trivial⟩ (fun ext=>TL.loadA hF (kC xs[k]) rfl rfl (hx.tabA kC_len (i:=k) hkx) rfl TL.fin) ?_
   refine DR.stepV [_,_,_,_,_] rfl [(1,_,none)] rfl rfl ⟨⟨rfl,by kernel_rfl⟩,trivial⟩ (fun ext=>TL.move hF rfl rfl TL.fin) ?_
   refine DR.stepV [_,_,_,_,_,_] rfl [(6,_,none)] rfl rfl ⟨⟨rfl,by kernel_rfl⟩,trivial⟩ (fun ext=>TL.move hF rfl rfl TL.fin) ?_
   refine DR.stepV [_,_,_,_,_,_,_] rfl [(25,_,some 4),(26,_,some 5)] rfl rfl ⟨⟨rfl,rfl,rfl⟩,⟨rfl,rfl,rfl⟩,trivial⟩ (fun ext=>TL.indexAddr hF rfl rfl (hy.tad kC_len (by decide) (i:=k) hky) (by omega) (by omega) rfl TL.fin) ?_
   refine DR.stepV [_,_,_,_,_,_,_,_] rfl [(27,_,some 6)] rfl rfl ⟨⟨rfl,rfl,rfl⟩,trivial⟩ (fun ext=>TL.loadA hF (kC ys[k]) rfl rfl (hy.tabA kC_len (i:=k) hky) rfl TL.fin) ?_
   refine DR.done [(28,_),(27,_),(26,_),(25,_),(24,_),(23,_),(22,_),(21,_)] [_,_] mixed (by kernel_rfl) (by kernel_rfl) (by kernel_rfl) rfl rfl ?_
   refine TL.eqlA hF rfl rfl (by kernel_rfl) (eqK xs[k] ys[k]) rfl ?_
   refine TL.assign hF rfl rfl ?_
   refine TL.nil ?_
   refine TQ.block_n ?_
   refine TQ.then_n ?_
   refine T.region ?_
   refine TL.move hF rfl rfl ?_
   refine TL.add hF rfl rfl (by omega) (by omega) rfl ?_
   refine TL.assign hF rfl rfl ?_
   refine TL.nil ?_
   refine TQ.round (k+1,decide (xs[k]=ys[k])) ⟨by simp only; omega,fun h=>⟨(hs1 g3_13).1,take_succ_eq _ _ (hs1 g3_13).2 (of_decide_eq_true h)⟩,fun h=>ne_of_getElem _ _ (of_decide_eq_false h)⟩ (by simp only; omega) ⟨rfl,rfl,rfl,rfl,trivial⟩ rfl
  ·refine T.exit ?_
   refine TQ.then_x ?_
   refine TQ.then_x ?_
   refine TQ.block_x ?_
   refine TQ.then_n ?_
   refine T.seq ?_
   refine T.region ?_
   refine TL.move hF rfl rfl ?_
   refine TL.assign hF rfl rfl ?_
   refine TL.nil ?_
   refine TQ.then_n ?_
   refine T.ret ?_
   refine TQ.rets [4] _ rfl rfl rfl ?_
   subst g3_13
   have h1:=hs1 rfl
   have h2:xs=ys:=by have:=h1.2; rwa [List.take_of_length_le (by omega),List.take_of_length_le (by omega)] at this
   exact ⟨by simp [retVal,h2],rfl⟩
 ·refine TL.off hF rfl rfl rfl g3_13 rfl ?_
  refine TL.off hF rfl rfl rfl g3_13 rfl ?_
  refine TL.off hF rfl rfl rfl g3_13 rfl ?_
  refine TL.off hF rfl rfl rfl g3_13 rfl ?_
  refine TL.pickF hF rfl g3_13 rfl rfl ?_
  refine TL.nil ?_
  refine TQ.then_n ?_
  refine T.cond_f rfl rfl ?_
  refine T.exit ?_
  refine TQ.then_x ?_
  refine TQ.then_x ?_
  refine TQ.block_x ?_
  refine TQ.then_n ?_
  refine T.seq ?_
  refine T.region ?_
  refine TL.move hF rfl rfl ?_
  refine TL.assign hF rfl rfl ?_
  refine TL.nil ?_
  refine TQ.then_n ?_
  refine T.ret ?_
  refine TQ.rets [4] _ rfl rfl rfl ?_
  subst g3_13
  exact ⟨by simp [retVal,hs2 rfl],rfl⟩
theorem NL.keyAt {a:Option Addr} {l:List NH} (h:NL S w0 η a l) {i:Nat} (hi:i<l.length):∀ j v,(kC l[i].nd.key)[j]?=some v→At S w0 η ⟨(sAt a (i*4)).block,(sAt a (i*4)).off+0+j,Option.none⟩ v:=fun j v hj=>by
 have:=h.atA hi j v (by match j,hj with | 0,h=>exact h | 1,h=>exact h)
 simpa using this
theorem NL.wordAt {a:Option Addr} {l:List NH} (h:NL S w0 η a l) {i:Nat} (hi:i<l.length):At S w0 η ⟨(sAt a (i*4)).block,(sAt a (i*4)).off+2,Option.none⟩ (.int .i64 l[i].nd.word):=h.atA hi 2 _ rfl
theorem NL.depsAt {a:Option Addr} {l:List NH} (h:NL S w0 η a l) {i:Nat} (hi:i<l.length):At S w0 η ⟨(sAt a (i*4)).block,(sAt a (i*4)).off+3,Option.none⟩ (.slice l[i].a l[i].nd.deps.length l[i].c):=h.atA hi 3 _ rfl
theorem nds_get {l:List NH} {i:Nat} (h:i<l.length):(nds l)[i]'(by rw [nds_len]; exact h)=l[i].nd:=by simp [nds]
theorem nd_ext {x y:Nd}:x=y↔x.key=y.key∧x.word=y.word∧x.deps=y.deps:=by
 cases x; cases y; simp
set_option maxHeartbeats 2000000 in
theorem nodesL_fn {a b : Option Addr} {l m : List NH} {ca cb : Nat} (hl : NL S w0 η a l) (hm : NL S w0 η b m) (hll : l.length < 2 ^ 63) :
  Rt Tryd.prog 26 [.slice a l.length ca,.slice b m.length cb].toArray S w0 η (fun v η'=>v = .bool (decide (nds l=nds m))∧η'=η):=by
 have hF:=open_wide
 refine Rt.of (fn:=Tryd.f26) Tryd.func26 rfl rfl ?_
 refine T.seq ?_
 refine T.region ?_
 refine TL.assign hF rfl rfl ?_
 refine TL.nil ?_
 refine TQ.then_n ?_
 refine T.seq ?_
 refine T.region ?_
 refine TL.move hF rfl rfl ?_
 refine TL.len hF rfl rfl ?_
 refine TL.move hF rfl rfl ?_
 refine TL.len hF rfl rfl ?_
 refine TL.bin hF rfl rfl rfl rfl ?_
 refine TL.assign hF rfl rfl ?_
 refine TL.nil ?_
 refine TQ.then_n ?_
 refine T.seq ?_
 refine T.seq ?_
 refine T.region ?_
 refine TL.assign hF rfl rfl ?_
 refine TL.nil ?_
 refine TQ.then_n ?_
 refine T.block ?_
 refine T.loop (ι:=Nat × Bool) (fun i=>i.1≤l.length∧(i.2=true→l.length=m.length∧(nds l).take i.1=(nds m).take i.1)∧(i.2=false→nds l≠nds m)) (fun i=>[(0,.slice a l.length ca),(1,.slice b m.length cb),(5,.bool i.2),(6,.int .i64 (i.1:Int))]) (fun _=>η) (fun i=>l.length - i.1) (0,decide ((l.length:Int)=m.length)) ⟨Nat.zero_le _,fun h=>⟨by simpa [Int.ofNat_inj] using h,by simp⟩,fun h e=>by have e2:=congrArg List.length e; rw [nds_len,nds_len] at e2; simp [e2] at h⟩ ⟨rfl,rfl,rfl,rfl,trivial⟩ rfl ?_
 rintro ⟨k,s⟩ ⟨hk,hs1,hs2⟩
 simp only at hk hs1 hs2
 refine T.seq ?_
 refine T.seq ?_
 refine T.region ?_
 refine TL.move hF rfl rfl ?_
 refine TL.move hF rfl rfl ?_
 refine TL.gb (t:=13) rfl (fun g3_13=>?_) (fun g3_13=>?_)
 ·refine TL.on rfl rfl rfl g3_13 ?_
  refine TL.move hF rfl rfl ?_
  refine TL.on rfl rfl rfl g3_13 ?_
  refine TL.move hF rfl rfl ?_
  refine TL.on rfl rfl rfl g3_13 ?_
  refine TL.len hF rfl rfl ?_
  refine TL.on rfl rfl rfl g3_13 ?_
  refine TL.bin hF rfl rfl rfl rfl ?_
  refine TL.pickT hF rfl g3_13 rfl rfl ?_
  refine TL.nil ?_
  refine TQ.then_n ?_
  first | refine T.cond_d rfl (fun ht18=>?_) (fun ht18=>?_) | refine T.cond _ rfl (fun ht18=>?_) (fun ht18=>?_)
  ·refine T.skip ?_
   refine TQ.then_n ?_
   refine T.seq ?_
   refine T.block ?_
   have hkl:k<l.length:=by omega
   have hkm:k<m.length:=by have:=(hs1 g3_13).1; omega
   have hkn1:k<(nds l).length:=by rw [nds_len]; exact hkl
   have hkn2:k<(nds m).length:=by rw [nds_len]; exact hkm
   rcases (show l[k].nd.key≠m[k].nd.key∨(l[k].nd.key=m[k].nd.key∧l[k].nd.word≠m[k].nd.word)∨(l[k].nd.key=m[k].nd.key∧l[k].nd.word=m[k].nd.word) by by_cases e1:l[k].nd.key=m[k].nd.key <;> by_cases e2:l[k].nd.word=m[k].nd.word <;> simp [e1,e2]) with h1 | ⟨h1,h2⟩ | ⟨h1,h2⟩
   ·refine T.draw ?_
    refine DR.stepV [_] rfl [(0,_,none)] rfl rfl ⟨⟨rfl,by kernel_rfl⟩,trivial⟩ (fun ext=>TL.move hF rfl rfl TL.fin) ?_
    refine DR.stepV [_,_] rfl [(6,_,none)] rfl rfl ⟨⟨rfl,by kernel_rfl⟩,trivial⟩ (fun ext=>TL.move hF rfl rfl TL.fin) ?_
    refine DR.stepV [_,_,_] rfl [(21,_,some 0),(22,_,some 1)] rfl rfl ⟨⟨rfl,rfl,rfl⟩,⟨rfl,rfl,rfl⟩,trivial⟩ (fun ext=>TL.indexAddr hF rfl rfl (hl.ad hkl) (by omega) (by omega) rfl TL.fin) ?_
    refine DR.stepV [_,_,_,_] rfl [(23,_,some 2)] rfl rfl ⟨⟨rfl,rfl,rfl⟩,trivial⟩ (fun ext=>TL.fieldAddr hF rfl rfl TL.fin) ?_
    refine DR.stepV [_,_,_,_,_] rfl [(24,_,some 3)] rfl rfl ⟨⟨rfl,rfl,rfl⟩,trivial⟩ (fun ext=>TL.loadA hF (kC l[k].nd.key) rfl rfl (hl.keyAt hkl) rfl TL.fin) ?_
    refine DR.stepV [_,_,_,_,_,_] rfl [(1,_,none)] rfl rfl ⟨⟨rfl,by kernel_rfl⟩,trivial⟩ (fun ext=>TL.move hF rfl rfl TL.fin) ?_
    refine DR.stepV [_,_,_,_,_,_,_] rfl [(6,_,none)] rfl rfl ⟨⟨rfl,by kernel_rfl⟩,trivial⟩ (fun ext=>TL.move hF rfl rfl TL.fin) ?_
    refine DR.stepV [_,_,_,_,_,_,_,_] rfl [(26,_,some 5),(27,_,some 6)] rfl rfl ⟨⟨rfl,rfl,rfl⟩,⟨rfl,rfl,rfl⟩,trivial⟩ (fun ext=>TL.indexAddr hF rfl rfl (hm.ad hkm) (by omega) (by omega) rfl TL.fin) ?_
    refine DR.stepV [_,_,_,_,_,_,_,_,_] rfl [(28,_,some 7)] rfl rfl ⟨⟨rfl,rfl,rfl⟩,trivial⟩ (fun ext=>TL.fieldAddr hF rfl rfl TL.fin) ?_
    refine DR.stepV [_,_,_,_,_,_,_,_,_,_] rfl [(29,_,some 8)] rfl rfl ⟨⟨rfl,rfl,rfl⟩,trivial⟩ (fun ext=>TL.loadA hF (kC m[k].nd.key) rfl rfl (hm.keyAt hkm) rfl TL.fin) ?_
    refine DR.stepV [_,_,_,_,_,_,_,_,_,_,_] rfl [(25,_,some 4),(30,_,some 9)] rfl rfl ⟨⟨rfl,rfl,rfl⟩,⟨rfl,rfl,rfl⟩,trivial⟩ (fun ext=>TL.eqlA hF rfl rfl (by kernel_rfl) (eqK l[k].nd.key m[k].nd.key) rfl TL.fin) ?_
    refine DR.stepV [_,_,_,_,_,_,_,_,_,_,_,_] rfl [(31,_,some 10)] rfl rfl ⟨⟨rfl,rfl,rfl⟩,trivial⟩ (fun ext=>TL.move hF rfl rfl TL.fin) ?_
    refine DR.stepV [_,_,_,_,_,_,_,_,_,_,_,_,_] rfl [(0,_,none),(32,_,some 11)] rfl rfl ⟨⟨rfl,by kernel_rfl⟩,⟨rfl,rfl,rfl⟩,trivial⟩ (fun ext=>TL.off hF rfl rfl rfl (decide_eq_false h1) rfl TL.fin) ?_
    refine DR.stepV [_,_,_,_,_,_,_,_,_,_,_,_,_,_] rfl [(6,_,none),(32,_,some 11)] rfl rfl ⟨⟨rfl,by kernel_rfl⟩,⟨rfl,rfl,rfl⟩,trivial⟩ (fun ext=>TL.off hF rfl rfl rfl (decide_eq_false h1) rfl TL.fin) ?_
    refine DR.stepV [_,_,_,_,_,_,_,_,_,_,_,_,_,_,_] rfl [(33,_,some 12),(34,_,some 13),(32,_,some 11)] rfl rfl ⟨⟨rfl,rfl,rfl⟩,⟨rfl,rfl,rfl⟩,⟨rfl,rfl,rfl⟩,trivial⟩ (fun ext=>TL.off hF rfl rfl rfl (decide_eq_false h1) rfl TL.fin) ?_
    refine DR.stepV [_,_,_,_,_,_,_,_,_,_,_,_,_,_,_,_] rfl [(35,_,some 14),(32,_,some 11)] rfl rfl ⟨⟨rfl,rfl,rfl⟩,⟨rfl,rfl,rfl⟩,trivial⟩ (fun ext=>TL.off hF rfl rfl rfl (decide_eq_false h1) rfl TL.fin) ?_
    refine DR.stepV [_,_,_,_,_,_,_,_,_,_,_,_,_,_,_,_,_] rfl [(36,_,some 15),(32,_,some 11)] rfl rfl ⟨⟨rfl,rfl,rfl⟩,⟨rfl,rfl,rfl⟩,trivial⟩ (fun ext=>TL.off hF rfl rfl rfl (decide_eq_false h1) rfl TL.fin) ?_
    refine DR.stepV [_,_,_,_,_,_,_,_,_,_,_,_,_,_,_,_,_,_] rfl [(1,_,none),(32,_,some 11)] rfl rfl ⟨⟨rfl,by kernel_rfl⟩,⟨rfl,rfl,rfl⟩,trivial⟩ (fun ext=>TL.off hF rfl rfl rfl (decide_eq_false h1) rfl TL.fin) ?_
    refine DR.stepV [_,_,_,_,_,_,_,_,_,_,_,_,_,_,_,_,_,_,_] rfl [(6,_,none),(32,_,some 11)] rfl rfl ⟨⟨rfl,by kernel_rfl⟩,⟨rfl,rfl,rfl⟩,trivial⟩ (fun ext=>TL.off hF rfl rfl rfl (decide_eq_false h1) rfl TL.fin) ?_
    refine DR.stepV [_,_,_,_,_,_,_,_,_,_,_,_,_,_,_,_,_,_,_,_] rfl [(38,_,some 17),(39,_,some 18),(32,_,some 11)] rfl rfl ⟨⟨rfl,rfl,rfl⟩,⟨rfl,rfl,rfl⟩,⟨rfl,rfl,rfl⟩,trivial⟩ (fun ext=>TL.off hF rfl rfl rfl (decide_eq_false h1) rfl TL.fin) ?_
    refine DR.stepV [_,_,_,_,_,_,_,_,_,_,_,_,_,_,_,_,_,_,_,_,_] rfl [(40,_,some 19),(32,_,some 11)] rfl rfl ⟨⟨rfl,rfl,rfl⟩,⟨rfl,rfl,rfl⟩,trivial⟩ (fun ext=>TL.off hF rfl rfl rfl (decide_eq_false h1) rfl TL.fin) ?_
    refine DR.stepV [_,_,_,_,_,_,_,_,_,_,_,_,_,_,_,_,_,_,_,_,_,_] rfl [(41,_,some 20),(32,_,some 11)] rfl rfl ⟨⟨rfl,rfl,rfl⟩,⟨rfl,rfl,rfl⟩,trivial⟩ (fun ext=>TL.off hF rfl rfl rfl (decide_eq_false h1) rfl TL.fin) ?_
    refine DR.stepV [_,_,_,_,_,_,_,_,_,_,_,_,_,_,_,_,_,_,_,_,_,_,_] rfl [(37,_,some 16),(42,_,some 21),(32,_,some 11)] rfl rfl ⟨⟨rfl,rfl,rfl⟩,⟨rfl,rfl,rfl⟩,⟨rfl,rfl,rfl⟩,trivial⟩ (fun ext=>TL.off hF rfl rfl rfl (decide_eq_false h1) rfl TL.fin) ?_
    refine DR.stepV [_,_,_,_,_,_,_,_,_,_,_,_,_,_,_,_,_,_,_,_,_,_,_,_] rfl [(32,_,some 11),(43,_,some 22)] rfl rfl ⟨⟨rfl,rfl,rfl⟩,⟨rfl,rfl,rfl⟩,trivial⟩ (fun ext=>TL.pickF hF rfl (decide_eq_false h1) rfl rfl TL.fin) ?_
    refine DR.stepV [_,_,_,_,_,_,_,_,_,_,_,_,_,_,_,_,_,_,_,_,_,_,_,_,_] rfl [(44,_,some 23)] rfl rfl ⟨⟨rfl,rfl,rfl⟩,trivial⟩ (fun ext=>TL.move hF rfl rfl TL.fin) ?_
    refine DR.stepV [_,_,_,_,_,_,_,_,_,_,_,_,_,_,_,_,_,_,_,_,_,_,_,_,_,_] rfl [(0,_,none),(45,_,some 24)] rfl rfl ⟨⟨rfl,by kernel_rfl⟩,⟨rfl,rfl,rfl⟩,trivial⟩ (fun ext=>TL.off hF rfl rfl rfl rfl rfl TL.fin) ?_
    refine DR.stepV [_,_,_,_,_,_,_,_,_,_,_,_,_,_,_,_,_,_,_,_,_,_,_,_,_,_,_] rfl [(6,_,none),(45,_,some 24)] rfl rfl ⟨⟨rfl,by kernel_rfl⟩,⟨rfl,rfl,rfl⟩,trivial⟩ (fun ext=>TL.off hF rfl rfl rfl rfl rfl TL.fin) ?_
    refine DR.stepV [_,_,_,_,_,_,_,_,_,_,_,_,_,_,_,_,_,_,_,_,_,_,_,_,_,_,_,_] rfl [(46,_,some 25),(47,_,some 26),(45,_,some 24)] rfl rfl ⟨⟨rfl,rfl,rfl⟩,⟨rfl,rfl,rfl⟩,⟨rfl,rfl,rfl⟩,trivial⟩ (fun ext=>TL.off hF rfl rfl rfl rfl rfl TL.fin) ?_
    refine DR.stepV [_,_,_,_,_,_,_,_,_,_,_,_,_,_,_,_,_,_,_,_,_,_,_,_,_,_,_,_,_] rfl [(48,_,some 27),(45,_,some 24)] rfl rfl ⟨⟨rfl,rfl,rfl⟩,⟨rfl,rfl,rfl⟩,trivial⟩ (fun ext=>TL.off hF rfl rfl rfl rfl rfl TL.fin) ?_
    refine DR.stepV [_,_,_,_,_,_,_,_,_,_,_,_,_,_,_,_,_,_,_,_,_,_,_,_,_,_,_,_,_,_] rfl [(49,_,some 28),(45,_,some 24)] rfl rfl ⟨⟨rfl,rfl,rfl⟩,⟨rfl,rfl,rfl⟩,trivial⟩ (fun ext=>TL.off hF rfl rfl rfl rfl rfl TL.fin) ?_
    refine DR.stepV [_,_,_,_,_,_,_,_,_,_,_,_,_,_,_,_,_,_,_,_,_,_,_,_,_,_,_,_,_,_,_] rfl [(1,_,none),(45,_,some 24)] rfl rfl ⟨⟨rfl,by kernel_rfl⟩,⟨rfl,rfl,rfl⟩,trivial⟩ (fun ext=>TL.off hF rfl rfl rfl rfl rfl TL.fin) ?_
    refine DR.stepV [_,_,_,_,_,_,_,_,_,_,_,_,_,_,_,_,_,_,_,_,_,_,_,_,_,_,_,_,_,_,_,_] rfl [(6,_,none),(45,_,some 24)] rfl rfl ⟨⟨rfl,by kernel_rfl⟩,⟨rfl,rfl,rfl⟩,trivial⟩ (fun ext=>TL.off hF rfl rfl rfl rfl rfl TL.fin) ?_
    refine DR.stepV [_,_,_,_,_,_,_,_,_,_,_,_,_,_,_,_,_,_,_,_,_,_,_,_,_,_,_,_,_,_,_,_,_] rfl [(51,_,some 30),(52,_,some 31),(45,_,some 24)] rfl rfl ⟨⟨rfl,rfl,rfl⟩,⟨rfl,rfl,rfl⟩,⟨rfl,rfl,rfl⟩,trivial⟩ (fun ext=>TL.off hF rfl rfl rfl rfl rfl TL.fin) ?_
    refine DR.stepV [_,_,_,_,_,_,_,_,_,_,_,_,_,_,_,_,_,_,_,_,_,_,_,_,_,_,_,_,_,_,_,_,_,_] rfl [(53,_,some 32),(45,_,some 24)] rfl rfl ⟨⟨rfl,rfl,rfl⟩,⟨rfl,rfl,rfl⟩,trivial⟩ (fun ext=>TL.off hF rfl rfl rfl rfl rfl TL.fin) ?_
    refine DR.stepV [_,_,_,_,_,_,_,_,_,_,_,_,_,_,_,_,_,_,_,_,_,_,_,_,_,_,_,_,_,_,_,_,_,_,_] rfl [(54,_,some 33),(45,_,some 24)] rfl rfl ⟨⟨rfl,rfl,rfl⟩,⟨rfl,rfl,rfl⟩,trivial⟩ (fun ext=>TL.off hF rfl rfl rfl rfl rfl TL.fin) ?_
    refine DR.done [(55,_),(54,_),(53,_),(52,_),(51,_),(50,_),(49,_),(48,_),(47,_),(46,_),(45,_),(44,_),(43,_),(42,_),(41,_),(40,_),(39,_),(38,_),(37,_),(36,_),(35,_),(34,_),(33,_),(32,_),(31,_),(30,_),(29,_),(28,_),(27,_),(26,_),(25,_),(24,_),(23,_),(22,_),(21,_)] [_,_,_] mixed (by kernel_rfl) (by kernel_rfl) (by kernel_rfl) rfl rfl ?_
    refine TL.off hF rfl rfl rfl rfl rfl ?_
    refine TL.pickF hF rfl rfl rfl rfl ?_
    refine TL.assign hF rfl rfl ?_
    refine TL.nil ?_
    refine TQ.block_n ?_
    refine TQ.then_n ?_
    refine T.region ?_
    refine TL.move hF rfl rfl ?_
    refine TL.add hF rfl rfl (by omega) (by omega) rfl ?_
    refine TL.assign hF rfl rfl ?_
    refine TL.nil ?_
    refine TQ.round (k+1,false) ⟨by simp only; omega,fun h=>⟨(hs1 g3_13).1,take_succ_eq hkn1 hkn2 (hs1 g3_13).2 (by rw [nds_get hkl,nds_get hkm]; exact absurd h Bool.false_ne_true)⟩,fun h=>ne_of_getElem hkn1 hkn2 (by rw [nds_get hkl,nds_get hkm]; exact fun q=>h1 (nd_ext.1 q).1)⟩ (by simp only; omega) ⟨rfl,rfl,rfl,rfl,trivial⟩ rfl
   ·refine T.draw ?_
    refine DR.stepV [_] rfl [(0,_,none)] rfl rfl ⟨⟨rfl,by kernel_rfl⟩,trivial⟩ (fun ext=>TL.move hF rfl rfl TL.fin) ?_
    refine DR.stepV [_,_] rfl [(6,_,none)] rfl rfl ⟨⟨rfl,by kernel_rfl⟩,trivial⟩ (fun ext=>TL.move hF rfl rfl TL.fin) ?_
    refine DR.stepV [_,_,_] rfl [(21,_,some 0),(22,_,some 1)] rfl rfl ⟨⟨rfl,rfl,rfl⟩,⟨rfl,rfl,rfl⟩,trivial⟩ (fun ext=>TL.indexAddr hF rfl rfl (hl.ad hkl) (by omega) (by omega) rfl TL.fin) ?_
    refine DR.stepV [_,_,_,_] rfl [(23,_,some 2)] rfl rfl ⟨⟨rfl,rfl,rfl⟩,trivial⟩ (fun ext=>TL.fieldAddr hF rfl rfl TL.fin) ?_
    refine DR.stepV [_,_,_,_,_] rfl [(24,_,some 3)] rfl rfl ⟨⟨rfl,rfl,rfl⟩,trivial⟩ (fun ext=>TL.loadA hF (kC l[k].nd.key) rfl rfl (hl.keyAt hkl) rfl TL.fin) ?_
    refine DR.stepV [_,_,_,_,_,_] rfl [(1,_,none)] rfl rfl ⟨⟨rfl,by kernel_rfl⟩,trivial⟩ (fun ext=>TL.move hF rfl rfl TL.fin) ?_
    refine DR.stepV [_,_,_,_,_,_,_] rfl [(6,_,none)] rfl rfl ⟨⟨rfl,by kernel_rfl⟩,trivial⟩ (fun ext=>TL.move hF rfl rfl TL.fin) ?_
    refine DR.stepV [_,_,_,_,_,_,_,_] rfl [(26,_,some 5),(27,_,some 6)] rfl rfl ⟨⟨rfl,rfl,rfl⟩,⟨rfl,rfl,rfl⟩,trivial⟩ (fun ext=>TL.indexAddr hF rfl rfl (hm.ad hkm) (by omega) (by omega) rfl TL.fin) ?_
    refine DR.stepV [_,_,_,_,_,_,_,_,_] rfl [(28,_,some 7)] rfl rfl ⟨⟨rfl,rfl,rfl⟩,trivial⟩ (fun ext=>TL.fieldAddr hF rfl rfl TL.fin) ?_
    refine DR.stepV [_,_,_,_,_,_,_,_,_,_] rfl [(29,_,some 8)] rfl rfl ⟨⟨rfl,rfl,rfl⟩,trivial⟩ (fun ext=>TL.loadA hF (kC m[k].nd.key) rfl rfl (hm.keyAt hkm) rfl TL.fin) ?_
    refine DR.stepV [_,_,_,_,_,_,_,_,_,_,_] rfl [(25,_,some 4),(30,_,some 9)] rfl rfl ⟨⟨rfl,rfl,rfl⟩,⟨rfl,rfl,rfl⟩,trivial⟩ (fun ext=>TL.eqlA hF rfl rfl (by kernel_rfl) (eqK l[k].nd.key m[k].nd.key) rfl TL.fin) ?_
    refine DR.stepV [_,_,_,_,_,_,_,_,_,_,_,_] rfl [(31,_,some 10)] rfl rfl ⟨⟨rfl,rfl,rfl⟩,trivial⟩ (fun ext=>TL.move hF rfl rfl TL.fin) ?_
    refine DR.stepV [_,_,_,_,_,_,_,_,_,_,_,_,_] rfl [(0,_,none),(32,_,some 11)] rfl rfl ⟨⟨rfl,by kernel_rfl⟩,⟨rfl,rfl,rfl⟩,trivial⟩ (fun ext=>TL.on rfl rfl rfl (decide_eq_true h1) <| TL.move hF rfl rfl TL.fin) ?_
    refine DR.stepV [_,_,_,_,_,_,_,_,_,_,_,_,_,_] rfl [(6,_,none),(32,_,some 11)] rfl rfl ⟨⟨rfl,by kernel_rfl⟩,⟨rfl,rfl,rfl⟩,trivial⟩ (fun ext=>TL.on rfl rfl rfl (decide_eq_true h1) <| TL.move hF rfl rfl TL.fin) ?_
    refine DR.stepV [_,_,_,_,_,_,_,_,_,_,_,_,_,_,_] rfl [(33,_,some 12),(34,_,some 13),(32,_,some 11)] rfl rfl ⟨⟨rfl,rfl,rfl⟩,⟨rfl,rfl,rfl⟩,⟨rfl,rfl,rfl⟩,trivial⟩ (fun ext=>TL.on rfl rfl rfl (decide_eq_true h1) <| TL.indexAddr hF rfl rfl (hl.ad hkl) (by omega) (by omega) rfl TL.fin) ?_
    refine DR.stepV [_,_,_,_,_,_,_,_,_,_,_,_,_,_,_,_] rfl [(35,_,some 14),(32,_,some 11)] rfl rfl ⟨⟨rfl,rfl,rfl⟩,⟨rfl,rfl,rfl⟩,trivial⟩ (fun ext=>TL.on rfl rfl rfl (decide_eq_true h1) <| TL.fieldAddr hF rfl rfl TL.fin) ?_
    refine DR.stepV [_,_,_,_,_,_,_,_,_,_,_,_,_,_,_,_,_] rfl [(36,_,some 15),(32,_,some 11)] rfl rfl ⟨⟨rfl,rfl,rfl⟩,⟨rfl,rfl,rfl⟩,trivial⟩ (fun ext=>TL.on rfl rfl rfl (decide_eq_true h1) <| TL.load hF rfl (hl.wordAt hkl) rfl TL.fin) ?_
    refine DR.stepV [_,_,_,_,_,_,_,_,_,_,_,_,_,_,_,_,_,_] rfl [(1,_,none),(32,_,some 11)] rfl rfl ⟨⟨rfl,by kernel_rfl⟩,⟨rfl,rfl,rfl⟩,trivial⟩ (fun ext=>TL.on rfl rfl rfl (decide_eq_true h1) <| TL.move hF rfl rfl TL.fin) ?_
    refine DR.stepV [_,_,_,_,_,_,_,_,_,_,_,_,_,_,_,_,_,_,_] rfl [(6,_,none),(32,_,some 11)] rfl rfl ⟨⟨rfl,by kernel_rfl⟩,⟨rfl,rfl,rfl⟩,trivial⟩ (fun ext=>TL.on rfl rfl rfl (decide_eq_true h1) <| TL.move hF rfl rfl TL.fin) ?_
    refine DR.stepV [_,_,_,_,_,_,_,_,_,_,_,_,_,_,_,_,_,_,_,_] rfl [(38,_,some 17),(39,_,some 18),(32,_,some 11)] rfl rfl ⟨⟨rfl,rfl,rfl⟩,⟨rfl,rfl,rfl⟩,⟨rfl,rfl,rfl⟩,trivial⟩ (fun ext=>TL.on rfl rfl rfl (decide_eq_true h1) <| TL.indexAddr hF rfl rfl (hm.ad hkm) (by omega) (by omega) rfl TL.fin) ?_
    refine DR.stepV [_,_,_,_,_,_,_,_,_,_,_,_,_,_,_,_,_,_,_,_,_] rfl [(40,_,some 19),(32,_,some 11)] rfl rfl ⟨⟨rfl,rfl,rfl⟩,⟨rfl,rfl,rfl⟩,trivial⟩ (fun ext=>TL.on rfl rfl rfl (decide_eq_true h1) <| TL.fieldAddr hF rfl rfl TL.fin) ?_
    refine DR.stepV [_,_,_,_,_,_,_,_,_,_,_,_,_,_,_,_,_,_,_,_,_,_] rfl [(41,_,some 20),(32,_,some 11)] rfl rfl ⟨⟨rfl,rfl,rfl⟩,⟨rfl,rfl,rfl⟩,trivial⟩ (fun ext=>TL.on rfl rfl rfl (decide_eq_true h1) <| TL.load hF rfl (hm.wordAt hkm) rfl TL.fin) ?_
    refine DR.stepV [_,_,_,_,_,_,_,_,_,_,_,_,_,_,_,_,_,_,_,_,_,_,_] rfl [(37,_,some 16),(42,_,some 21),(32,_,some 11)] rfl rfl ⟨⟨rfl,rfl,rfl⟩,⟨rfl,rfl,rfl⟩,⟨rfl,rfl,rfl⟩,trivial⟩ (fun ext=>TL.on rfl rfl rfl (decide_eq_true h1) <| TL.bin hF rfl rfl rfl rfl TL.fin) ?_
    refine DR.stepV [_,_,_,_,_,_,_,_,_,_,_,_,_,_,_,_,_,_,_,_,_,_,_,_] rfl [(32,_,some 11),(43,_,some 22)] rfl rfl ⟨⟨rfl,rfl,rfl⟩,⟨rfl,rfl,rfl⟩,trivial⟩ (fun ext=>TL.pickT hF rfl (decide_eq_true h1) rfl rfl TL.fin) ?_
    refine DR.stepV [_,_,_,_,_,_,_,_,_,_,_,_,_,_,_,_,_,_,_,_,_,_,_,_,_] rfl [(44,_,some 23)] rfl rfl ⟨⟨rfl,rfl,rfl⟩,trivial⟩ (fun ext=>TL.move hF rfl rfl TL.fin) ?_
    refine DR.stepV [_,_,_,_,_,_,_,_,_,_,_,_,_,_,_,_,_,_,_,_,_,_,_,_,_,_] rfl [(0,_,none),(45,_,some 24)] rfl rfl ⟨⟨rfl,by kernel_rfl⟩,⟨rfl,rfl,rfl⟩,trivial⟩ (fun ext=>TL.off hF rfl rfl rfl (decide_eq_false h2) rfl TL.fin) ?_
    refine DR.stepV [_,_,_,_,_,_,_,_,_,_,_,_,_,_,_,_,_,_,_,_,_,_,_,_,_,_,_] rfl [(6,_,none),(45,_,some 24)] rfl rfl ⟨⟨rfl,by kernel_rfl⟩,⟨rfl,rfl,rfl⟩,trivial⟩ (fun ext=>TL.off hF rfl rfl rfl (decide_eq_false h2) rfl TL.fin) ?_
    refine DR.stepV [_,_,_,_,_,_,_,_,_,_,_,_,_,_,_,_,_,_,_,_,_,_,_,_,_,_,_,_] rfl [(46,_,some 25),(47,_,some 26),(45,_,some 24)] rfl rfl ⟨⟨rfl,rfl,rfl⟩,⟨rfl,rfl,rfl⟩,⟨rfl,rfl,rfl⟩,trivial⟩ (fun ext=>TL.off hF rfl rfl rfl (decide_eq_false h2) rfl TL.fin) ?_
    refine DR.stepV [_,_,_,_,_,_,_,_,_,_,_,_,_,_,_,_,_,_,_,_,_,_,_,_,_,_,_,_,_] rfl [(48,_,some 27),(45,_,some 24)] rfl rfl ⟨⟨rfl,rfl,rfl⟩,⟨rfl,rfl,rfl⟩,trivial⟩ (fun ext=>TL.off hF rfl rfl rfl (decide_eq_false h2) rfl TL.fin) ?_
    refine DR.stepV [_,_,_,_,_,_,_,_,_,_,_,_,_,_,_,_,_,_,_,_,_,_,_,_,_,_,_,_,_,_] rfl [(49,_,some 28),(45,_,some 24)] rfl rfl ⟨⟨rfl,rfl,rfl⟩,⟨rfl,rfl,rfl⟩,trivial⟩ (fun ext=>TL.off hF rfl rfl rfl (decide_eq_false h2) rfl TL.fin) ?_
    refine DR.stepV [_,_,_,_,_,_,_,_,_,_,_,_,_,_,_,_,_,_,_,_,_,_,_,_,_,_,_,_,_,_,_] rfl [(1,_,none),(45,_,some 24)] rfl rfl ⟨⟨rfl,by kernel_rfl⟩,⟨rfl,rfl,rfl⟩,trivial⟩ (fun ext=>TL.off hF rfl rfl rfl (decide_eq_false h2) rfl TL.fin) ?_
    refine DR.stepV [_,_,_,_,_,_,_,_,_,_,_,_,_,_,_,_,_,_,_,_,_,_,_,_,_,_,_,_,_,_,_,_] rfl [(6,_,none),(45,_,some 24)] rfl rfl ⟨⟨rfl,by kernel_rfl⟩,⟨rfl,rfl,rfl⟩,trivial⟩ (fun ext=>TL.off hF rfl rfl rfl (decide_eq_false h2) rfl TL.fin) ?_
    refine DR.stepV [_,_,_,_,_,_,_,_,_,_,_,_,_,_,_,_,_,_,_,_,_,_,_,_,_,_,_,_,_,_,_,_,_] rfl [(51,_,some 30),(52,_,some 31),(45,_,some 24)] rfl rfl ⟨⟨rfl,rfl,rfl⟩,⟨rfl,rfl,rfl⟩,⟨rfl,rfl,rfl⟩,trivial⟩ (fun ext=>TL.off hF rfl rfl rfl (decide_eq_false h2) rfl TL.fin) ?_
    refine DR.stepV [_,_,_,_,_,_,_,_,_,_,_,_,_,_,_,_,_,_,_,_,_,_,_,_,_,_,_,_,_,_,_,_,_,_] rfl [(53,_,some 32),(45,_,some 24)] rfl rfl ⟨⟨rfl,rfl,rfl⟩,⟨rfl,rfl,rfl⟩,trivial⟩ (fun ext=>TL.off hF rfl rfl rfl (decide_eq_false h2) rfl TL.fin) ?_
    refine DR.stepV [_,_,_,_,_,_,_,_,_,_,_,_,_,_,_,_,_,_,_,_,_,_,_,_,_,_,_,_,_,_,_,_,_,_,_] rfl [(54,_,some 33),(45,_,some 24)] rfl rfl ⟨⟨rfl,rfl,rfl⟩,⟨rfl,rfl,rfl⟩,trivial⟩ (fun ext=>TL.off hF rfl rfl rfl (decide_eq_false h2) rfl TL.fin) ?_
    refine DR.done [(55,_),(54,_),(53,_),(52,_),(51,_),(50,_),(49,_),(48,_),(47,_),(46,_),(45,_),(44,_),(43,_),(42,_),(41,_),(40,_),(39,_),(38,_),(37,_),(36,_),(35,_),(34,_),(33,_),(32,_),(31,_),(30,_),(29,_),(28,_),(27,_),(26,_),(25,_),(24,_),(23,_),(22,_),(21,_)] [_,_,_] mixed (by kernel_rfl) (by kernel_rfl) (by kernel_rfl) rfl rfl ?_
    refine TL.off hF rfl rfl rfl (decide_eq_false h2) rfl ?_
    refine TL.pickF hF rfl (decide_eq_false h2) rfl rfl ?_
    refine TL.assign hF rfl rfl ?_
    refine TL.nil ?_
    refine TQ.block_n ?_
    refine TQ.then_n ?_
    refine T.region ?_
    refine TL.move hF rfl rfl ?_
    refine TL.add hF rfl rfl (by omega) (by omega) rfl ?_
    refine TL.assign hF rfl rfl ?_
    refine TL.nil ?_
    refine TQ.round (k+1,false) ⟨by simp only; omega,fun h=>⟨(hs1 g3_13).1,take_succ_eq hkn1 hkn2 (hs1 g3_13).2 (by rw [nds_get hkl,nds_get hkm]; exact absurd h Bool.false_ne_true)⟩,fun h=>ne_of_getElem hkn1 hkn2 (by rw [nds_get hkl,nds_get hkm]; exact fun q=>h2 (nd_ext.1 q).2.1)⟩ (by simp only; omega) ⟨rfl,rfl,rfl,rfl,trivial⟩ rfl
   ·refine T.draw ?_
    refine DR.stepV [_] rfl [(0,_,none)] rfl rfl ⟨⟨rfl,by kernel_rfl⟩,trivial⟩ (fun ext=>TL.move hF rfl rfl TL.fin) ?_
    refine DR.stepV [_,_] rfl [(6,_,none)] rfl rfl ⟨⟨rfl,by kernel_rfl⟩,trivial⟩ (fun ext=>TL.move hF rfl rfl TL.fin) ?_
    refine DR.stepV [_,_,_] rfl [(21,_,some 0),(22,_,some 1)] rfl rfl ⟨⟨rfl,rfl,rfl⟩,⟨rfl,rfl,rfl⟩,trivial⟩ (fun ext=>TL.indexAddr hF rfl rfl (hl.ad hkl) (by omega) (by omega) rfl TL.fin) ?_
    refine DR.stepV [_,_,_,_] rfl [(23,_,some 2)] rfl rfl ⟨⟨rfl,rfl,rfl⟩,trivial⟩ (fun ext=>TL.fieldAddr hF rfl rfl TL.fin) ?_
    refine DR.stepV [_,_,_,_,_] rfl [(24,_,some 3)] rfl rfl ⟨⟨rfl,rfl,rfl⟩,trivial⟩ (fun ext=>TL.loadA hF (kC l[k].nd.key) rfl rfl (hl.keyAt hkl) rfl TL.fin) ?_
    refine DR.stepV [_,_,_,_,_,_] rfl [(1,_,none)] rfl rfl ⟨⟨rfl,by kernel_rfl⟩,trivial⟩ (fun ext=>TL.move hF rfl rfl TL.fin) ?_
    refine DR.stepV [_,_,_,_,_,_,_] rfl [(6,_,none)] rfl rfl ⟨⟨rfl,by kernel_rfl⟩,trivial⟩ (fun ext=>TL.move hF rfl rfl TL.fin) ?_
    refine DR.stepV [_,_,_,_,_,_,_,_] rfl [(26,_,some 5),(27,_,some 6)] rfl rfl ⟨⟨rfl,rfl,rfl⟩,⟨rfl,rfl,rfl⟩,trivial⟩ (fun ext=>TL.indexAddr hF rfl rfl (hm.ad hkm) (by omega) (by omega) rfl TL.fin) ?_
    refine DR.stepV [_,_,_,_,_,_,_,_,_] rfl [(28,_,some 7)] rfl rfl ⟨⟨rfl,rfl,rfl⟩,trivial⟩ (fun ext=>TL.fieldAddr hF rfl rfl TL.fin) ?_
    refine DR.stepV [_,_,_,_,_,_,_,_,_,_] rfl [(29,_,some 8)] rfl rfl ⟨⟨rfl,rfl,rfl⟩,trivial⟩ (fun ext=>TL.loadA hF (kC m[k].nd.key) rfl rfl (hm.keyAt hkm) rfl TL.fin) ?_
    refine DR.stepV [_,_,_,_,_,_,_,_,_,_,_] rfl [(25,_,some 4),(30,_,some 9)] rfl rfl ⟨⟨rfl,rfl,rfl⟩,⟨rfl,rfl,rfl⟩,trivial⟩ (fun ext=>TL.eqlA hF rfl rfl (by kernel_rfl) (eqK l[k].nd.key m[k].nd.key) rfl TL.fin) ?_
    refine DR.stepV [_,_,_,_,_,_,_,_,_,_,_,_] rfl [(31,_,some 10)] rfl rfl ⟨⟨rfl,rfl,rfl⟩,trivial⟩ (fun ext=>TL.move hF rfl rfl TL.fin) ?_
    refine DR.stepV [_,_,_,_,_,_,_,_,_,_,_,_,_] rfl [(0,_,none),(32,_,some 11)] rfl rfl ⟨⟨rfl,by kernel_rfl⟩,⟨rfl,rfl,rfl⟩,trivial⟩ (fun ext=>TL.on rfl rfl rfl (decide_eq_true h1) <| TL.move hF rfl rfl TL.fin) ?_
    refine DR.stepV [_,_,_,_,_,_,_,_,_,_,_,_,_,_] rfl [(6,_,none),(32,_,some 11)] rfl rfl ⟨⟨rfl,by kernel_rfl⟩,⟨rfl,rfl,rfl⟩,trivial⟩ (fun ext=>TL.on rfl rfl rfl (decide_eq_true h1) <| TL.move hF rfl rfl TL.fin) ?_
    refine DR.stepV [_,_,_,_,_,_,_,_,_,_,_,_,_,_,_] rfl [(33,_,some 12),(34,_,some 13),(32,_,some 11)] rfl rfl ⟨⟨rfl,rfl,rfl⟩,⟨rfl,rfl,rfl⟩,⟨rfl,rfl,rfl⟩,trivial⟩ (fun ext=>TL.on rfl rfl rfl (decide_eq_true h1) <| TL.indexAddr hF rfl rfl (hl.ad hkl) (by omega) (by omega) rfl TL.fin) ?_
    refine DR.stepV [_,_,_,_,_,_,_,_,_,_,_,_,_,_,_,_] rfl [(35,_,some 14),(32,_,some 11)] rfl rfl ⟨⟨rfl,rfl,rfl⟩,⟨rfl,rfl,rfl⟩,trivial⟩ (fun ext=>TL.on rfl rfl rfl (decide_eq_true h1) <| TL.fieldAddr hF rfl rfl TL.fin) ?_
    refine DR.stepV [_,_,_,_,_,_,_,_,_,_,_,_,_,_,_,_,_] rfl [(36,_,some 15),(32,_,some 11)] rfl rfl ⟨⟨rfl,rfl,rfl⟩,⟨rfl,rfl,rfl⟩,trivial⟩ (fun ext=>TL.on rfl rfl rfl (decide_eq_true h1) <| TL.load hF rfl (hl.wordAt hkl) rfl TL.fin) ?_
    refine DR.stepV [_,_,_,_,_,_,_,_,_,_,_,_,_,_,_,_,_,_] rfl [(1,_,none),(32,_,some 11)] rfl rfl ⟨⟨rfl,by kernel_rfl⟩,⟨rfl,rfl,rfl⟩,trivial⟩ (fun ext=>TL.on rfl rfl rfl (decide_eq_true h1) <| TL.move hF rfl rfl TL.fin) ?_
    refine DR.stepV [_,_,_,_,_,_,_,_,_,_,_,_,_,_,_,_,_,_,_] rfl [(6,_,none),(32,_,some 11)] rfl rfl ⟨⟨rfl,by kernel_rfl⟩,⟨rfl,rfl,rfl⟩,trivial⟩ (fun ext=>TL.on rfl rfl rfl (decide_eq_true h1) <| TL.move hF rfl rfl TL.fin) ?_
    refine DR.stepV [_,_,_,_,_,_,_,_,_,_,_,_,_,_,_,_,_,_,_,_] rfl [(38,_,some 17),(39,_,some 18),(32,_,some 11)] rfl rfl ⟨⟨rfl,rfl,rfl⟩,⟨rfl,rfl,rfl⟩,⟨rfl,rfl,rfl⟩,trivial⟩ (fun ext=>TL.on rfl rfl rfl (decide_eq_true h1) <| TL.indexAddr hF rfl rfl (hm.ad hkm) (by omega) (by omega) rfl TL.fin) ?_
    refine DR.stepV [_,_,_,_,_,_,_,_,_,_,_,_,_,_,_,_,_,_,_,_,_] rfl [(40,_,some 19),(32,_,some 11)] rfl rfl ⟨⟨rfl,rfl,rfl⟩,⟨rfl,rfl,rfl⟩,trivial⟩ (fun ext=>TL.on rfl rfl rfl (decide_eq_true h1) <| TL.fieldAddr hF rfl rfl TL.fin) ?_
    refine DR.stepV [_,_,_,_,_,_,_,_,_,_,_,_,_,_,_,_,_,_,_,_,_,_] rfl [(41,_,some 20),(32,_,some 11)] rfl rfl ⟨⟨rfl,rfl,rfl⟩,⟨rfl,rfl,rfl⟩,trivial⟩ (fun ext=>TL.on rfl rfl rfl (decide_eq_true h1) <| TL.load hF rfl (hm.wordAt hkm) rfl TL.fin) ?_
    refine DR.stepV [_,_,_,_,_,_,_,_,_,_,_,_,_,_,_,_,_,_,_,_,_,_,_] rfl [(37,_,some 16),(42,_,some 21),(32,_,some 11)] rfl rfl ⟨⟨rfl,rfl,rfl⟩,⟨rfl,rfl,rfl⟩,⟨rfl,rfl,rfl⟩,trivial⟩ (fun ext=>TL.on rfl rfl rfl (decide_eq_true h1) <| TL.bin hF rfl rfl rfl rfl TL.fin) ?_
    refine DR.stepV [_,_,_,_,_,_,_,_,_,_,_,_,_,_,_,_,_,_,_,_,_,_,_,_] rfl [(32,_,some 11),(43,_,some 22)] rfl rfl ⟨⟨rfl,rfl,rfl⟩,⟨rfl,rfl,rfl⟩,trivial⟩ (fun ext=>TL.pickT hF rfl (decide_eq_true h1) rfl rfl TL.fin) ?_
    refine DR.stepV [_,_,_,_,_,_,_,_,_,_,_,_,_,_,_,_,_,_,_,_,_,_,_,_,_] rfl [(44,_,some 23)] rfl rfl ⟨⟨rfl,rfl,rfl⟩,trivial⟩ (fun ext=>TL.move hF rfl rfl TL.fin) ?_
    refine DR.stepV [_,_,_,_,_,_,_,_,_,_,_,_,_,_,_,_,_,_,_,_,_,_,_,_,_,_] rfl [(0,_,none),(45,_,some 24)] rfl rfl ⟨⟨rfl,by kernel_rfl⟩,⟨rfl,rfl,rfl⟩,trivial⟩ (fun ext=>TL.on rfl rfl rfl (decide_eq_true h2) <| TL.move hF rfl rfl TL.fin) ?_
    refine DR.stepV [_,_,_,_,_,_,_,_,_,_,_,_,_,_,_,_,_,_,_,_,_,_,_,_,_,_,_] rfl [(6,_,none),(45,_,some 24)] rfl rfl ⟨⟨rfl,by kernel_rfl⟩,⟨rfl,rfl,rfl⟩,trivial⟩ (fun ext=>TL.on rfl rfl rfl (decide_eq_true h2) <| TL.move hF rfl rfl TL.fin) ?_
    refine DR.stepV [_,_,_,_,_,_,_,_,_,_,_,_,_,_,_,_,_,_,_,_,_,_,_,_,_,_,_,_] rfl [(46,_,some 25),(47,_,some 26),(45,_,some 24)] rfl rfl ⟨⟨rfl,rfl,rfl⟩,⟨rfl,rfl,rfl⟩,⟨rfl,rfl,rfl⟩,trivial⟩ (fun ext=>TL.on rfl rfl rfl (decide_eq_true h2) <| TL.indexAddr hF rfl rfl (hl.ad hkl) (by omega) (by omega) rfl TL.fin) ?_
    refine DR.stepV [_,_,_,_,_,_,_,_,_,_,_,_,_,_,_,_,_,_,_,_,_,_,_,_,_,_,_,_,_] rfl [(48,_,some 27),(45,_,some 24)] rfl rfl ⟨⟨rfl,rfl,rfl⟩,⟨rfl,rfl,rfl⟩,trivial⟩ (fun ext=>TL.on rfl rfl rfl (decide_eq_true h2) <| TL.fieldAddr hF rfl rfl TL.fin) ?_
    refine DR.stepV [_,_,_,_,_,_,_,_,_,_,_,_,_,_,_,_,_,_,_,_,_,_,_,_,_,_,_,_,_,_] rfl [(49,_,some 28),(45,_,some 24)] rfl rfl ⟨⟨rfl,rfl,rfl⟩,⟨rfl,rfl,rfl⟩,trivial⟩ (fun ext=>TL.on rfl rfl rfl (decide_eq_true h2) <| TL.load hF rfl (hl.depsAt hkl) rfl TL.fin) ?_
    refine DR.stepV [_,_,_,_,_,_,_,_,_,_,_,_,_,_,_,_,_,_,_,_,_,_,_,_,_,_,_,_,_,_,_] rfl [(1,_,none),(45,_,some 24)] rfl rfl ⟨⟨rfl,by kernel_rfl⟩,⟨rfl,rfl,rfl⟩,trivial⟩ (fun ext=>TL.on rfl rfl rfl (decide_eq_true h2) <| TL.move hF rfl rfl TL.fin) ?_
    refine DR.stepV [_,_,_,_,_,_,_,_,_,_,_,_,_,_,_,_,_,_,_,_,_,_,_,_,_,_,_,_,_,_,_,_] rfl [(6,_,none),(45,_,some 24)] rfl rfl ⟨⟨rfl,by kernel_rfl⟩,⟨rfl,rfl,rfl⟩,trivial⟩ (fun ext=>TL.on rfl rfl rfl (decide_eq_true h2) <| TL.move hF rfl rfl TL.fin) ?_
    refine DR.stepV [_,_,_,_,_,_,_,_,_,_,_,_,_,_,_,_,_,_,_,_,_,_,_,_,_,_,_,_,_,_,_,_,_] rfl [(51,_,some 30),(52,_,some 31),(45,_,some 24)] rfl rfl ⟨⟨rfl,rfl,rfl⟩,⟨rfl,rfl,rfl⟩,⟨rfl,rfl,rfl⟩,trivial⟩ (fun ext=>TL.on rfl rfl rfl (decide_eq_true h2) <| TL.indexAddr hF rfl rfl (hm.ad hkm) (by omega) (by omega) rfl TL.fin) ?_
    refine DR.stepV [_,_,_,_,_,_,_,_,_,_,_,_,_,_,_,_,_,_,_,_,_,_,_,_,_,_,_,_,_,_,_,_,_,_] rfl [(53,_,some 32),(45,_,some 24)] rfl rfl ⟨⟨rfl,rfl,rfl⟩,⟨rfl,rfl,rfl⟩,trivial⟩ (fun ext=>TL.on rfl rfl rfl (decide_eq_true h2) <| TL.fieldAddr hF rfl rfl TL.fin) ?_
    refine DR.stepV [_,_,_,_,_,_,_,_,_,_,_,_,_,_,_,_,_,_,_,_,_,_,_,_,_,_,_,_,_,_,_,_,_,_,_] rfl [(54,_,some 33),(45,_,some 24)] rfl rfl ⟨⟨rfl,rfl,rfl⟩,⟨rfl,rfl,rfl⟩,trivial⟩ (fun ext=>TL.on rfl rfl rfl (decide_eq_true h2) <| TL.load hF rfl (hm.depsAt hkm) rfl TL.fin) ?_
    refine DR.done [(55,_),(54,_),(53,_),(52,_),(51,_),(50,_),(49,_),(48,_),(47,_),(46,_),(45,_),(44,_),(43,_),(42,_),(41,_),(40,_),(39,_),(38,_),(37,_),(36,_),(35,_),(34,_),(33,_),(32,_),(31,_),(30,_),(29,_),(28,_),(27,_),(26,_),(25,_),(24,_),(23,_),(22,_),(21,_)] [_,_,_] mixed (by kernel_rfl) (by kernel_rfl) (by kernel_rfl) rfl rfl ?_
    refine TL.on rfl rfl rfl (decide_eq_true h2) ?_
    refine TL.callV hF (SameDeps_fn (hl.it hkl).row (hm.it hkm).row (by have:=(hl.it hkl).len; omega)) rfl rfl ?_
    refine TL.pickT hF rfl (decide_eq_true h2) rfl rfl ?_
    refine TL.assign hF rfl rfl ?_
    refine TL.nil ?_
    refine TQ.block_n ?_
    refine TQ.then_n ?_
    refine T.region ?_
    refine TL.move hF rfl rfl ?_
    refine TL.add hF rfl rfl (by omega) (by omega) rfl ?_
    refine TL.assign hF rfl rfl ?_
    refine TL.nil ?_
    refine TQ.round (k+1,decide (l[k].nd.deps=m[k].nd.deps)) ⟨by simp only; omega,fun h=>⟨(hs1 g3_13).1,take_succ_eq hkn1 hkn2 (hs1 g3_13).2 (by rw [nds_get hkl,nds_get hkm]; exact nd_ext.2 ⟨h1,h2,of_decide_eq_true h⟩)⟩,fun h=>ne_of_getElem hkn1 hkn2 (by rw [nds_get hkl,nds_get hkm]; exact fun q=>of_decide_eq_false h (nd_ext.1 q).2.2)⟩ (by simp only; omega) ⟨rfl,rfl,rfl,rfl,trivial⟩ rfl
  ·refine T.exit ?_
   refine TQ.then_x ?_
   refine TQ.then_x ?_
   refine TQ.block_x ?_
   refine TQ.then_n ?_
   refine T.seq ?_
   refine T.region ?_
   refine TL.move hF rfl rfl ?_
   refine TL.assign hF rfl rfl ?_
   refine TL.nil ?_
   refine TQ.then_n ?_
   refine T.ret ?_
   refine TQ.rets [4] _ rfl rfl rfl ?_
   subst g3_13
   have h1:=hs1 rfl
   have h2:nds l=nds m:=by have:=h1.2; rwa [List.take_of_length_le (by rw [nds_len]; omega),List.take_of_length_le (by rw [nds_len]; omega)] at this
   exact ⟨by simp [retVal,h2],rfl⟩
 ·refine TL.off hF rfl rfl rfl g3_13 rfl ?_
  refine TL.off hF rfl rfl rfl g3_13 rfl ?_
  refine TL.off hF rfl rfl rfl g3_13 rfl ?_
  refine TL.off hF rfl rfl rfl g3_13 rfl ?_
  refine TL.pickF hF rfl g3_13 rfl rfl ?_
  refine TL.nil ?_
  refine TQ.then_n ?_
  refine T.cond_f rfl rfl ?_
  refine T.exit ?_
  refine TQ.then_x ?_
  refine TQ.then_x ?_
  refine TQ.block_x ?_
  refine TQ.then_n ?_
  refine T.seq ?_
  refine T.region ?_
  refine TL.move hF rfl rfl ?_
  refine TL.assign hF rfl rfl ?_
  refine TL.nil ?_
  refine TQ.then_n ?_
  refine T.ret ?_
  refine TQ.rets [4] _ rfl rfl rfl ?_
  subst g3_13
  exact ⟨by simp [retVal,hs2 rfl],rfl⟩
theorem rnd_dec (x y:Rnd):decide (x=y)=(decide (x.word=y.word) && decide (x.again=y.again) && decide (x.new=y.new) && decide (x.kept=y.kept) && decide (x.dropped=y.dropped)):=by
 cases x; cases y
 simp [Bool.and_assoc]
set_option maxHeartbeats 2000000 in
theorem round_fn {x y : RH} (hx : RM S w0 η x) (hy : RM S w0 η y) (hl : x.r.again.length < 2 ^ 63 ∧ x.r.new.length < 2 ^ 63 ∧ x.r.kept.length < 2 ^ 63 ∧ x.r.dropped.length < 2 ^ 63) :
  Rt Tryd.prog 46 [.agg (rhC x).toArray,.agg (rhC y).toArray].toArray S w0 η (fun v η'=>v = .bool (decide (x.r=y.r))∧η'=η):=by
 have hF:=open_wide
 refine Rt.of (fn:=Tryd.f46) Tryd.func46 rfl rfl ?_
 refine T.seq ?_
 refine T.region ?_
 refine TL.box hF rfl rfl (fun b2=>?_)
 refine TL.box hF rfl rfl (fun b3=>?_)
 refine TL.assign hF rfl rfl ?_
 refine TL.nil ?_
 refine TQ.then_n ?_
 refine T.seq ?_
 refine T.region ?_
 refine TL.fieldAddr hF rfl rfl ?_
 refine TL.load hF rfl (by first | exact At.own' (i:=0) rfl rfl | exact At.own' (i:=1) rfl rfl | exact At.own' (i:=2) rfl rfl | exact At.own' (i:=3) rfl rfl | exact At.own' (i:=4) rfl rfl | exact At.own' (i:=5) rfl rfl | exact At.own' (i:=6) rfl rfl | exact At.own' (i:=7) rfl rfl | exact At.own' (i:=8) rfl rfl | exact At.own' (i:=9) rfl rfl | exact At.own' (i:=10) rfl rfl | exact At.own' (i:=11) rfl rfl | exact At.own' (i:=12) rfl rfl) rfl ?_
 refine TL.fieldAddr hF rfl rfl ?_
 refine TL.load hF rfl (by first | exact At.own' (i:=0) rfl rfl | exact At.own' (i:=1) rfl rfl | exact At.own' (i:=2) rfl rfl | exact At.own' (i:=3) rfl rfl | exact At.own' (i:=4) rfl rfl | exact At.own' (i:=5) rfl rfl | exact At.own' (i:=6) rfl rfl | exact At.own' (i:=7) rfl rfl | exact At.own' (i:=8) rfl rfl | exact At.own' (i:=9) rfl rfl | exact At.own' (i:=10) rfl rfl | exact At.own' (i:=11) rfl rfl | exact At.own' (i:=12) rfl rfl) rfl ?_
 refine TL.bin hF rfl rfl rfl rfl ?_
 refine TL.move hF rfl rfl ?_
 refine TL.gd (t:=10) rfl (fun g1_10=>?_) (fun g1_10=>?_)
 ·refine TL.on rfl rfl rfl (decide_eq_true g1_10) ?_
  refine TL.fieldAddr hF rfl rfl ?_
  refine TL.on rfl rfl rfl (decide_eq_true g1_10) ?_
  refine TL.load hF rfl (by first | exact At.own' (i:=0) rfl rfl | exact At.own' (i:=1) rfl rfl | exact At.own' (i:=2) rfl rfl | exact At.own' (i:=3) rfl rfl | exact At.own' (i:=4) rfl rfl | exact At.own' (i:=5) rfl rfl | exact At.own' (i:=6) rfl rfl | exact At.own' (i:=7) rfl rfl | exact At.own' (i:=8) rfl rfl | exact At.own' (i:=9) rfl rfl | exact At.own' (i:=10) rfl rfl | exact At.own' (i:=11) rfl rfl | exact At.own' (i:=12) rfl rfl) rfl ?_
  refine TL.on rfl rfl rfl (decide_eq_true g1_10) ?_
  refine TL.fieldAddr hF rfl rfl ?_
  refine TL.on rfl rfl rfl (decide_eq_true g1_10) ?_
  refine TL.load hF rfl (by first | exact At.own' (i:=0) rfl rfl | exact At.own' (i:=1) rfl rfl | exact At.own' (i:=2) rfl rfl | exact At.own' (i:=3) rfl rfl | exact At.own' (i:=4) rfl rfl | exact At.own' (i:=5) rfl rfl | exact At.own' (i:=6) rfl rfl | exact At.own' (i:=7) rfl rfl | exact At.own' (i:=8) rfl rfl | exact At.own' (i:=9) rfl rfl | exact At.own' (i:=10) rfl rfl | exact At.own' (i:=11) rfl rfl | exact At.own' (i:=12) rfl rfl) rfl ?_
  refine TL.on rfl rfl rfl (decide_eq_true g1_10) ?_
  refine TL.callV hF (keysL_fn ((hx.r1.up upc).up upc) ((hy.r1.up upc).up upc) hl.1) rfl rfl ?_
  refine TL.pickT hF rfl (decide_eq_true g1_10) rfl rfl ?_
  refine TL.move hF rfl rfl ?_
  refine TL.gd (t:=17) rfl (fun g1_17=>?_) (fun g1_17=>?_)
  ·refine TL.on rfl rfl rfl (decide_eq_true g1_17) ?_
   refine TL.fieldAddr hF rfl rfl ?_
   refine TL.on rfl rfl rfl (decide_eq_true g1_17) ?_
   refine TL.load hF rfl (by first | exact At.own' (i:=0) rfl rfl | exact At.own' (i:=1) rfl rfl | exact At.own' (i:=2) rfl rfl | exact At.own' (i:=3) rfl rfl | exact At.own' (i:=4) rfl rfl | exact At.own' (i:=5) rfl rfl | exact At.own' (i:=6) rfl rfl | exact At.own' (i:=7) rfl rfl | exact At.own' (i:=8) rfl rfl | exact At.own' (i:=9) rfl rfl | exact At.own' (i:=10) rfl rfl | exact At.own' (i:=11) rfl rfl | exact At.own' (i:=12) rfl rfl) rfl ?_
   refine TL.on rfl rfl rfl (decide_eq_true g1_17) ?_
   refine TL.fieldAddr hF rfl rfl ?_
   refine TL.on rfl rfl rfl (decide_eq_true g1_17) ?_
   refine TL.load hF rfl (by first | exact At.own' (i:=0) rfl rfl | exact At.own' (i:=1) rfl rfl | exact At.own' (i:=2) rfl rfl | exact At.own' (i:=3) rfl rfl | exact At.own' (i:=4) rfl rfl | exact At.own' (i:=5) rfl rfl | exact At.own' (i:=6) rfl rfl | exact At.own' (i:=7) rfl rfl | exact At.own' (i:=8) rfl rfl | exact At.own' (i:=9) rfl rfl | exact At.own' (i:=10) rfl rfl | exact At.own' (i:=11) rfl rfl | exact At.own' (i:=12) rfl rfl) rfl ?_
   refine TL.on rfl rfl rfl (decide_eq_true g1_17) ?_
   refine TL.callV hF (keysL_fn ((hx.r2.up upc).up upc) ((hy.r2.up upc).up upc) hl.2.1) rfl rfl ?_
   refine TL.pickT hF rfl (decide_eq_true g1_17) rfl rfl ?_
   refine TL.move hF rfl rfl ?_
   refine TL.gd (t:=24) rfl (fun g1_24=>?_) (fun g1_24=>?_)
   ·refine TL.on rfl rfl rfl (decide_eq_true g1_24) ?_
    refine TL.fieldAddr hF rfl rfl ?_
    refine TL.on rfl rfl rfl (decide_eq_true g1_24) ?_
    refine TL.load hF rfl (by first | exact At.own' (i:=0) rfl rfl | exact At.own' (i:=1) rfl rfl | exact At.own' (i:=2) rfl rfl | exact At.own' (i:=3) rfl rfl | exact At.own' (i:=4) rfl rfl | exact At.own' (i:=5) rfl rfl | exact At.own' (i:=6) rfl rfl | exact At.own' (i:=7) rfl rfl | exact At.own' (i:=8) rfl rfl | exact At.own' (i:=9) rfl rfl | exact At.own' (i:=10) rfl rfl | exact At.own' (i:=11) rfl rfl | exact At.own' (i:=12) rfl rfl) rfl ?_
    refine TL.on rfl rfl rfl (decide_eq_true g1_24) ?_
    refine TL.fieldAddr hF rfl rfl ?_
    refine TL.on rfl rfl rfl (decide_eq_true g1_24) ?_
    refine TL.load hF rfl (by first | exact At.own' (i:=0) rfl rfl | exact At.own' (i:=1) rfl rfl | exact At.own' (i:=2) rfl rfl | exact At.own' (i:=3) rfl rfl | exact At.own' (i:=4) rfl rfl | exact At.own' (i:=5) rfl rfl | exact At.own' (i:=6) rfl rfl | exact At.own' (i:=7) rfl rfl | exact At.own' (i:=8) rfl rfl | exact At.own' (i:=9) rfl rfl | exact At.own' (i:=10) rfl rfl | exact At.own' (i:=11) rfl rfl | exact At.own' (i:=12) rfl rfl) rfl ?_
    refine TL.on rfl rfl rfl (decide_eq_true g1_24) ?_
    refine TL.callV hF (keysL_fn ((hx.r3.up upc).up upc) ((hy.r3.up upc).up upc) hl.2.2.1) rfl rfl ?_
    refine TL.pickT hF rfl (decide_eq_true g1_24) rfl rfl ?_
    refine TL.move hF rfl rfl ?_
    refine TL.gd (t:=31) rfl (fun g1_31=>?_) (fun g1_31=>?_)
    ·refine TL.on rfl rfl rfl (decide_eq_true g1_31) ?_
     refine TL.fieldAddr hF rfl rfl ?_
     refine TL.on rfl rfl rfl (decide_eq_true g1_31) ?_
     refine TL.load hF rfl (by first | exact At.own' (i:=0) rfl rfl | exact At.own' (i:=1) rfl rfl | exact At.own' (i:=2) rfl rfl | exact At.own' (i:=3) rfl rfl | exact At.own' (i:=4) rfl rfl | exact At.own' (i:=5) rfl rfl | exact At.own' (i:=6) rfl rfl | exact At.own' (i:=7) rfl rfl | exact At.own' (i:=8) rfl rfl | exact At.own' (i:=9) rfl rfl | exact At.own' (i:=10) rfl rfl | exact At.own' (i:=11) rfl rfl | exact At.own' (i:=12) rfl rfl) rfl ?_
     refine TL.on rfl rfl rfl (decide_eq_true g1_31) ?_
     refine TL.fieldAddr hF rfl rfl ?_
     refine TL.on rfl rfl rfl (decide_eq_true g1_31) ?_
     refine TL.load hF rfl (by first | exact At.own' (i:=0) rfl rfl | exact At.own' (i:=1) rfl rfl | exact At.own' (i:=2) rfl rfl | exact At.own' (i:=3) rfl rfl | exact At.own' (i:=4) rfl rfl | exact At.own' (i:=5) rfl rfl | exact At.own' (i:=6) rfl rfl | exact At.own' (i:=7) rfl rfl | exact At.own' (i:=8) rfl rfl | exact At.own' (i:=9) rfl rfl | exact At.own' (i:=10) rfl rfl | exact At.own' (i:=11) rfl rfl | exact At.own' (i:=12) rfl rfl) rfl ?_
     refine TL.on rfl rfl rfl (decide_eq_true g1_31) ?_
     refine TL.callV hF (keysL_fn ((hx.r4.up upc).up upc) ((hy.r4.up upc).up upc) hl.2.2.2) rfl rfl ?_
     refine TL.pickT hF rfl (decide_eq_true g1_31) rfl rfl ?_
     refine TL.assign hF rfl rfl ?_
     refine TL.nil ?_
     refine TQ.then_n ?_
     refine T.ret ?_
     refine TQ.pop (TQ.pop ?_)
     refine TQ.rets [4] _ rfl rfl rfl ⟨?_,rfl⟩
     rw [rnd_dec]
     show Value.bool _=Value.bool _
     congr 1
     simp [g1_10,g1_17,g1_24,g1_31]
    ·refine TL.off hF rfl rfl rfl (decide_eq_false g1_31) rfl ?_
     refine TL.off hF rfl rfl rfl (decide_eq_false g1_31) rfl ?_
     refine TL.off hF rfl rfl rfl (decide_eq_false g1_31) rfl ?_
     refine TL.off hF rfl rfl rfl (decide_eq_false g1_31) rfl ?_
     refine TL.off hF rfl rfl rfl (decide_eq_false g1_31) rfl ?_
     refine TL.pickF hF rfl (decide_eq_false g1_31) rfl rfl ?_
     refine TL.assign hF rfl rfl ?_
     refine TL.nil ?_
     refine TQ.then_n ?_
     refine T.ret ?_
     refine TQ.pop (TQ.pop ?_)
     refine TQ.rets [4] _ rfl rfl rfl ⟨?_,rfl⟩
     rw [rnd_dec]
     show Value.bool _=Value.bool _
     congr 1
     simp [g1_10,g1_17,g1_24,g1_31]
   ·refine TL.off hF rfl rfl rfl (decide_eq_false g1_24) rfl ?_
    refine TL.off hF rfl rfl rfl (decide_eq_false g1_24) rfl ?_
    refine TL.off hF rfl rfl rfl (decide_eq_false g1_24) rfl ?_
    refine TL.off hF rfl rfl rfl (decide_eq_false g1_24) rfl ?_
    refine TL.off hF rfl rfl rfl (decide_eq_false g1_24) rfl ?_
    refine TL.pickF hF rfl (decide_eq_false g1_24) rfl rfl ?_
    refine TL.move hF rfl rfl ?_
    refine TL.off hF rfl rfl rfl rfl rfl ?_
    refine TL.off hF rfl rfl rfl rfl rfl ?_
    refine TL.off hF rfl rfl rfl rfl rfl ?_
    refine TL.off hF rfl rfl rfl rfl rfl ?_
    refine TL.off hF rfl rfl rfl rfl rfl ?_
    refine TL.pickF hF rfl rfl rfl rfl ?_
    refine TL.assign hF rfl rfl ?_
    refine TL.nil ?_
    refine TQ.then_n ?_
    refine T.ret ?_
    refine TQ.pop (TQ.pop ?_)
    refine TQ.rets [4] _ rfl rfl rfl ⟨?_,rfl⟩
    rw [rnd_dec]
    show Value.bool _=Value.bool _
    congr 1
    simp [g1_10,g1_17,g1_24]
  ·refine TL.off hF rfl rfl rfl (decide_eq_false g1_17) rfl ?_
   refine TL.off hF rfl rfl rfl (decide_eq_false g1_17) rfl ?_
   refine TL.off hF rfl rfl rfl (decide_eq_false g1_17) rfl ?_
   refine TL.off hF rfl rfl rfl (decide_eq_false g1_17) rfl ?_
   refine TL.off hF rfl rfl rfl (decide_eq_false g1_17) rfl ?_
   refine TL.pickF hF rfl (decide_eq_false g1_17) rfl rfl ?_
   refine TL.move hF rfl rfl ?_
   refine TL.off hF rfl rfl rfl rfl rfl ?_
   refine TL.off hF rfl rfl rfl rfl rfl ?_
   refine TL.off hF rfl rfl rfl rfl rfl ?_
   refine TL.off hF rfl rfl rfl rfl rfl ?_
   refine TL.off hF rfl rfl rfl rfl rfl ?_
   refine TL.pickF hF rfl rfl rfl rfl ?_
   refine TL.move hF rfl rfl ?_
   refine TL.off hF rfl rfl rfl rfl rfl ?_
   refine TL.off hF rfl rfl rfl rfl rfl ?_
   refine TL.off hF rfl rfl rfl rfl rfl ?_
   refine TL.off hF rfl rfl rfl rfl rfl ?_
   refine TL.off hF rfl rfl rfl rfl rfl ?_
   refine TL.pickF hF rfl rfl rfl rfl ?_
   refine TL.assign hF rfl rfl ?_
   refine TL.nil ?_
   refine TQ.then_n ?_
   refine T.ret ?_
   refine TQ.pop (TQ.pop ?_)
   refine TQ.rets [4] _ rfl rfl rfl ⟨?_,rfl⟩
   rw [rnd_dec]
   show Value.bool _=Value.bool _
   congr 1
   simp [g1_10,g1_17]
 ·refine TL.off hF rfl rfl rfl (decide_eq_false g1_10) rfl ?_
  refine TL.off hF rfl rfl rfl (decide_eq_false g1_10) rfl ?_
  refine TL.off hF rfl rfl rfl (decide_eq_false g1_10) rfl ?_
  refine TL.off hF rfl rfl rfl (decide_eq_false g1_10) rfl ?_
  refine TL.off hF rfl rfl rfl (decide_eq_false g1_10) rfl ?_
  refine TL.pickF hF rfl (decide_eq_false g1_10) rfl rfl ?_
  refine TL.move hF rfl rfl ?_
  refine TL.off hF rfl rfl rfl rfl rfl ?_
  refine TL.off hF rfl rfl rfl rfl rfl ?_
  refine TL.off hF rfl rfl rfl rfl rfl ?_
  refine TL.off hF rfl rfl rfl rfl rfl ?_
  refine TL.off hF rfl rfl rfl rfl rfl ?_
  refine TL.pickF hF rfl rfl rfl rfl ?_
  refine TL.move hF rfl rfl ?_
  refine TL.off hF rfl rfl rfl rfl rfl ?_
  refine TL.off hF rfl rfl rfl rfl rfl ?_
  refine TL.off hF rfl rfl rfl rfl rfl ?_
  refine TL.off hF rfl rfl rfl rfl rfl ?_
  refine TL.off hF rfl rfl rfl rfl rfl ?_
  refine TL.pickF hF rfl rfl rfl rfl ?_
  refine TL.move hF rfl rfl ?_
  refine TL.off hF rfl rfl rfl rfl rfl ?_
  refine TL.off hF rfl rfl rfl rfl rfl ?_
  refine TL.off hF rfl rfl rfl rfl rfl ?_
  refine TL.off hF rfl rfl rfl rfl rfl ?_
  refine TL.off hF rfl rfl rfl rfl rfl ?_
  refine TL.pickF hF rfl rfl rfl rfl ?_
  refine TL.assign hF rfl rfl ?_
  refine TL.nil ?_
  refine TQ.then_n ?_
  refine T.ret ?_
  refine TQ.pop (TQ.pop ?_)
  refine TQ.rets [4] _ rfl rfl rfl ⟨?_,rfl⟩
  rw [rnd_dec]
  show Value.bool _=Value.bool _
  congr 1
  simp [g1_10]
set_option maxHeartbeats 2000000 in
theorem at_fn (a b : Int) :
  Rt Tryd.prog 29 [.int .i64 a,.int .i64 b].toArray S w0 η (fun v η'=>v=kV (a,b)∧η'=η):=by
 have hF:=open_wide
 refine Rt.of (fn:=Tryd.f29) Tryd.func29 rfl rfl ?_
 refine T.seq ?_
 refine T.region ?_
 refine TL.alloc hF rfl (fun b4=>?_)
 refine TL.nil ?_
 refine TQ.then_n ?_
 refine T.seq ?_
 refine T.region ?_
 refine TL.move hF rfl rfl ?_
 refine TL.move hF rfl rfl ?_
 refine TL.build hF rfl (r:=kV (a,b)) (fun w=>by kernel_rfl) rfl ?_
 refine TL.storeAI hF (kC (a,b)) 0 rfl rfl rfl rfl (kC1 _) (by simp [Value.cells,kC]) ?_
 refine TL.nil ?_
 refine TQ.then_n ?_
 refine T.ret ?_
 refine TQ.retC (kC (a,b)) η rfl rfl rfl (own_list (i:=0) (cs:=kC (a,b)) rfl) (by simp) ⟨rfl,rfl⟩
set_option maxHeartbeats 2000000 in
theorem of_fn {op n : Int} {a : Option Addr} {k c : Nat} :
  Rt Tryd.prog 31 [.int .i64 op,.int .i64 n,.slice a k c].toArray S w0 η (fun v η'=>v = .agg #[.int .i64 op,.int .i64 n,.slice a k c]∧η'=η):=by
 have hF:=open_wide
 refine Rt.of (fn:=Tryd.f31) Tryd.func31 rfl rfl ?_
 refine T.seq ?_
 refine T.region ?_
 refine TL.alloc hF rfl (fun b6=>?_)
 refine TL.nil ?_
 refine TQ.then_n ?_
 refine T.seq ?_
 refine T.region ?_
 refine TL.move hF rfl rfl ?_
 refine TL.move hF rfl rfl ?_
 refine TL.move hF rfl rfl ?_
 refine TL.build hF rfl (r:=.agg #[.int .i64 op,.int .i64 n,.slice a k c]) (fun w=>by kernel_rfl) rfl ?_
 refine TL.storeAI hF [.int .i64 op,.int .i64 n,.slice a k c] 0 rfl rfl rfl rfl (by simp [Value.oneCell']) (by simp [Value.cells]) ?_
 refine TL.nil ?_
 refine TQ.then_n ?_
 refine T.ret ?_
 refine TQ.retC [.int .i64 op,.int .i64 n,.slice a k c] η rfl rfl rfl (own_list (i:=0) (cs:=[.int .i64 op,.int .i64 n,.slice a k c]) rfl) (by simp) ⟨rfl,rfl⟩
set_option maxHeartbeats 2000000 in
theorem cell_fn (a b : Int) :
  Rt Tryd.prog 33 [.int .i64 a,.int .i64 b].toArray S w0 η (fun v η'=>v=dpV (cellD a b)∧η'=η):=by
 have hF:=open_wide
 refine Rt.of (fn:=Tryd.f33) Tryd.func33 rfl rfl ?_
 refine T.seq ?_
 refine T.region ?_
 refine TL.alloc hF rfl (fun b4=>?_)
 refine TL.nil ?_
 refine TQ.then_n ?_
 refine T.seq ?_
 refine T.region ?_
 refine TL.move hF rfl rfl ?_
 refine TL.move hF rfl rfl ?_
 refine TL.build hF rfl (r:=dpV (cellD a b)) (fun w=>by kernel_rfl) rfl ?_
 refine TL.storeAI hF (dpC (cellD a b)) 0 rfl rfl rfl rfl (dpC1 _) (by simp [Value.cells,dpC]) ?_
 refine TL.nil ?_
 refine TQ.then_n ?_
 refine T.ret ?_
 refine TQ.retC (dpC (cellD a b)) η rfl rfl rfl (own_list (i:=0) (cs:=dpC (cellD a b)) rfl) (by simp) ⟨rfl,rfl⟩
set_option maxHeartbeats 2000000 in
theorem got_fn (k : Key) (b : Int) :
  Rt Tryd.prog 44 [kV k,.int .i64 b].toArray S w0 η (fun v η'=>v=dpV (gotD k b)∧η'=η):=by
 have hF:=open_wide
 refine Rt.of (fn:=Tryd.f44) Tryd.func44 rfl rfl ?_
 refine T.seq ?_
 refine T.region ?_
 refine TL.box hF rfl rfl (fun b2=>?_)
 refine TL.alloc hF rfl (fun b4=>?_)
 refine TL.nil ?_
 refine TQ.then_n ?_
 refine T.seq ?_
 refine T.region ?_
 refine TL.loadA hF (kC k) rfl rfl (own_list (i:=1) (cs:=kC k) rfl) rfl ?_
 refine TL.move hF rfl rfl ?_
 refine TL.build hF rfl (r:=dpV (gotD k b)) (fun w=>by kernel_rfl) rfl ?_
 refine TL.storeAI hF (dpC (gotD k b)) 0 rfl rfl rfl rfl (dpC1 _) (by simp [Value.cells,dpC]) ?_
 refine TL.nil ?_
 refine TQ.then_n ?_
 refine T.ret ?_
 refine TQ.retC (dpC (gotD k b)) η rfl rfl rfl (own_list (i:=0) (cs:=dpC (gotD k b)) rfl) (List.Sublist.cons _ (List.sublist_cons_self _ _)) ⟨rfl,rfl⟩
/-- The argument, less a number, as memory holds it. -/
def lessT (bl:Nat) (n:Int):TE:=.nd 3 1 (some ⟨bl,0,none⟩) 2 [.nd 1 0 none 0 [],.nd 0 n none 0 []]
abbrev lessS (bl:Nat) (n:Int):Seg:=[(bl,Obj.cells #[.int .i64 1,.int .i64 0,.slice none 0 0,.int .i64 0,.int .i64 n,.slice none 0 0] 72 (0,0))]
theorem tr_leaf (op n:Int):Tr S w0 η (.nd op n none 0 []):=tr_iff.2 ⟨⟨Row.none,Nat.le_refl _,(show 0<9223372036854775808 by decide)⟩,fun y hy=>by cases hy⟩
theorem lessT_tr {bl:Nat} {n:Int} (h:lessS bl n∈η):Tr S w0 η (lessT bl n):=by
 refine tr_iff.2 ⟨⟨row_own (cs:=[.int .i64 1,.int .i64 0,.slice none 0 0,.int .i64 0,.int .i64 n,.slice none 0 0]) (e:=72) h,Nat.le_refl 2,(show 2<9223372036854775808 by decide)⟩,fun y hy=>?_⟩
 have hy2:y∈[TE.nd 1 0 none 0 [],TE.nd 0 n none 0 []]:=hy
 simp only [List.mem_cons,List.not_mem_nil,or_false] at hy2
 rcases hy2 with rfl | rfl
 ·exact tr_leaf 1 0
 ·exact tr_leaf 0 n
set_option maxHeartbeats 2000000 in
theorem less_fn (n : Int) :
  Rt Tryd.prog 51 [.int .i64 n].toArray S w0 η (fun v η'=>∃ bl,v=teV (lessT bl n)∧η'=lessS bl n::η):=by
 have hF:=open_wide
 refine Rt.of (fn:=Tryd.f51) Tryd.func51 rfl rfl ?_
 refine T.seq ?_
 refine T.region ?_
 refine TL.alloc hF rfl (fun b2=>?_)
 refine TL.nil ?_
 refine TQ.then_n ?_
 refine T.seq ?_
 refine T.region ?_
 refine TL.callV hF (of_fn) rfl rfl ?_
 refine TL.move hF rfl rfl ?_
 refine TL.callV hF (of_fn) rfl rfl ?_
 refine TL.buildSlice hF rfl (cs:=#[.int .i64 1,.int .i64 0,.slice none 0 0,.int .i64 0,.int .i64 n,.slice none 0 0]) (e:=72) (fun w=>by kernel_rfl) rfl (fun bl=>?_)
 refine TL.callV hF (of_fn) rfl rfl ?_
 refine TL.storeAI hF [.int .i64 3,.int .i64 1,.slice (some ⟨bl,0,none⟩) 2 2] 1 rfl rfl rfl rfl (by simp [Value.oneCell']) (by simp [Value.cells]) ?_
 refine TL.nil ?_
 refine TQ.then_n ?_
 refine T.ret ?_
 refine TQ.retC [.int .i64 3,.int .i64 1,.slice (some ⟨bl,0,none⟩) 2 2] (lessS bl n::η) rfl rfl rfl (own_list (i:=1) (cs:=[.int .i64 3,.int .i64 1,.slice (some ⟨bl,0,none⟩) 2 2]) rfl) (List.Sublist.cons_cons _ (List.sublist_cons_self _ _)) ⟨bl,rfl,rfl⟩
end Go.Proofs.YtdiacobmhkmljaaDoor
