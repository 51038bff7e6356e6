/- Several texts in one. -/
import Derived.Test.YtdiacobmhkmljaaGreatDoorUc
import Derived.Test.YtdiacobmhkmljaaGreatDoorUf
import Derived.Test.YtdiacobmhkmljaaGreatDoorUe
import Derived.Test.YtdiacobmhkmljaaGreatDoorUb
/- The reference looks at all parts, one by one; of a condition only at one branch. -/
namespace Go.Proofs.YtdiacobmhkmljaaGreatDoor
section
variable (C:List Nd→Key→List Nd × Int) (cells:List Int) (arg:Int)
/-- One part more; a branch that is not taken counts as 0. -/
def stepR (op:Int) (st:List Nd × List Int × List Dp) (x:Ex):List Nd × List Int × List Dp :=
  if op=5∧0<st.2.1.length∧(decide (at0 st.2.1 0≠0)≠decide (st.2.1.length=1)) then (st.1,st.2.1++[0],st.2.2)
  else ((evalS C cells arg x st.1 st.2.2).1,st.2.1++[(evalS C cells arg x st.1 st.2.2).2.1],(evalS C cells arg x st.1 st.2.2).2.2)
def partsR (op:Int) (l:List Ex) (ns:List Nd) (ds:List Dp):List Nd × List Int × List Dp:=l.foldl (stepR C cells arg op) (ns,[],ds)
theorem partsR_other {op:Int} (h:op≠5):∀ (l:List Ex) (ns:List Nd) (ws:List Int) (ds:List Dp),l.foldl (stepR C cells arg op) (ns,ws,ds)=((evalsS C cells arg l ns ds).1,ws++(evalsS C cells arg l ns ds).2.1,(evalsS C cells arg l ns ds).2.2)
  | [],ns,ws,ds=>by simp [evalsS]
  | x::r,ns,ws,ds=>by
    rw [List.foldl_cons]
    have e:stepR C cells arg op (ns,ws,ds) x=((evalS C cells arg x ns ds).1,ws++[(evalS C cells arg x ns ds).2.1],(evalS C cells arg x ns ds).2.2):=by
      unfold stepR; rw [if_neg (fun q=>h q.1)]
    rw [e,partsR_other h r]
    simp [evalsS]
theorem partsR_if (n:Int) (c x y:Ex) (ns:List Nd) (ds:List Dp):evalS C cells arg (.nd 5 n [c,x,y]) ns ds=((partsR C cells arg 5 [c,x,y] ns ds).1,at0 (partsR C cells arg 5 [c,x,y] ns ds).2.1 1+at0 (partsR C cells arg 5 [c,x,y] ns ds).2.1 2,(partsR C cells arg 5 [c,x,y] ns ds).2.2):=by
  have e0:stepR C cells arg 5 (ns,[],ds) c=((evalS C cells arg c ns ds).1,[(evalS C cells arg c ns ds).2.1],(evalS C cells arg c ns ds).2.2):=by
    unfold stepR; rw [if_neg (by simp)]; rfl
  have eL:evalS C cells arg (.nd 5 n [c,x,y]) ns ds=ifS C cells arg [c,x,y] ns ds:=by
    unfold evalS; rfl
  rw [eL]
  unfold partsR ifS
  simp only [List.foldl_cons,List.foldl_nil,e0]
  by_cases h:(evalS C cells arg c ns ds).2.1=0
  · rw [if_neg (by simpa using h)]
    simp [stepR,at0,h]
  · rw [if_pos h]
    simp [stepR,at0,h]
end
end Go.Proofs.YtdiacobmhkmljaaGreatDoor
/- The reference: nodes in order. -/
namespace Go.Proofs.YtdiacobmhkmljaaGreatDoor
open Go.Sl
variable {S:Nat→Prop} {w0:World} {η:Heap}
def insH (x:NH):List NH→List NH
 | []=>[x]
 | y::r=>if kLt x.nd.key y.nd.key then x::y::r else y::insH x r
theorem insH_nds (x:NH):∀ l:List NH,nds (insH x l)=insN x.nd (nds l)
 | []=>rfl
 | y::r=>by
  have ih:=insH_nds x r
  unfold insH
  show nds _=insN x.nd (y.nd::nds r)
  unfold insN
  split
  ·rfl
  ·show y.nd::nds (insH x r)=_
   rw [ih]
theorem insH_len (x:NH):∀ l:List NH,(insH x l).length=l.length+1
 | []=>rfl
 | y::r=>by unfold insH; split <;> simp [insH_len x r]
theorem mem_insH {x z:NH}:∀ {l:List NH},z∈insH x l↔z=x∨z∈l
 | []=>by simp [insH]
 | y::r=>by
  unfold insH
  split
  ·simp
  ·simp only [List.mem_cons,mem_insH (l:=r)]
   constructor
   ·rintro (h | h | h)
    ·exact .inr (.inl h)
    ·exact .inl h
    ·exact .inr (.inr h)
   ·rintro (h | h | h)
    ·exact .inr (.inl h)
    ·exact .inl h
    ·exact .inr (.inr h)
/-- No call stands behind a greater one. -/
def HUp (l:List NH):Prop:=l.Pairwise fun a b=>kLt b.nd.key a.nd.key=false
theorem kLt_tr {a b c:Key} (h1:kLt a b=true) (h2:kLt c b=false):kLt a c=true:=by
 rw [kLt_iff] at h1 ⊢
 have h3:¬ kLt c b=true:=by rw [h2]; simp
 rw [kLt_iff] at h3
 omega
theorem kLt_as {a b:Key} (h1:kLt a b=true):kLt b a=false:=by
 rw [kLt_iff] at h1
 rw [← Bool.not_eq_true,kLt_iff]
 omega
theorem insH_at {x:NH}:∀ {P Q:List NH},(∀ y∈P,kLt x.nd.key y.nd.key=false)→(∀ y∈Q,kLt x.nd.key y.nd.key=true)→insH x (P++Q)=P++x::Q
 | [],[],_,_=>rfl
 | [],q::Q,_,h=>by
  show insH x (q::Q)=_
  unfold insH; rw [if_pos (h q (by simp))]; rfl
 | p::P,Q,hp,hq=>by
  show insH x (p::(P++Q))=_
  unfold insH
  rw [if_neg (by rw [hp p (by simp)]; simp),insH_at (fun y hy=>hp y (by simp [hy])) hq]; rfl
theorem hup_low {P Q:List NH} {x:NH} {y:NH} (h:HUp ((P++[y])++Q)) (hx:kLt x.nd.key y.nd.key=false):∀ z∈P++[y],kLt x.nd.key z.nd.key=false:=by
 intro z hz
 rcases List.mem_append.1 hz with hz | hz
 ·have h1:kLt y.nd.key z.nd.key=false:=(List.pairwise_append.1 (List.pairwise_append.1 h).1).2.2 z hz y (by simp)
  rw [← Bool.not_eq_true]
  intro h2
  have:=kLt_tr h2 h1
  rw [hx] at this; cases this
 ·rw [List.mem_singleton.1 hz]; exact hx
theorem hup_ins {x:NH} {P Q:List NH} (h:HUp (P++Q)) (hp:∀ y∈P,kLt x.nd.key y.nd.key=false) (hq:∀ y∈Q,kLt x.nd.key y.nd.key=true):HUp (P++x::Q):=by
 obtain ⟨h1,h2,h3⟩:=List.pairwise_append.1 h
 refine List.pairwise_append.2 ⟨h1,List.pairwise_cons.2 ⟨fun y hy=>kLt_as (hq y hy),h2⟩,fun a ha b hb=>?_⟩
 rcases List.mem_cons.1 hb with rfl | hb
 ·exact hp a ha
 ·exact h3 a ha b hb
theorem put_mid {T u v D:List Value} {o:Nat} (h1:T.length=o) (h2:v.length=u.length):(T++u++D).take o++v++(T++u++D).drop (o+v.length)=T++v++D:=by
 subst h1
 rw [h2,List.append_assoc T u D,List.take_left,← List.append_assoc T u D,← List.length_append,List.drop_left]
theorem osl_cells {e:TypeId} {sz n:Nat} {v:Value} {seg:Seg} {xs:List Value} (h:OSl e sz v n xs seg) (h0:0<n):∃ g cap ex,v = .slice (some ⟨g,0,none⟩) n cap∧seg=[(g,.cells (xs++ex).toArray e (0,0))]∧n≤cap∧(xs++ex).length=cap*sz:=by
 rcases h.2 with ⟨_,h1,_⟩ | ⟨g,cap,cur,hv,hs,hc,hz,ht⟩
 ·omega
 ·have e1:xs++cur.toList.drop (n*sz)=cur.toList:=by rw [← ht,List.take_append_drop]
  refine ⟨g,cap,cur.toList.drop (n*sz),hv,?_,hc,?_⟩
  ·rw [e1,hs]
  ·rw [e1,Array.length_toList,hz]
theorem osl_of {e:TypeId} {sz n g cap:Nat} {xs ex:List Value} (h1:xs.length=n*sz) (h2:n≤cap) (h3:(xs++ex).length=cap*sz):OSl e sz (.slice (some ⟨g,0,none⟩) n cap) n xs [(g,.cells (xs++ex).toArray e (0,0))] :=
 ⟨h1,.inr ⟨g,cap,_,rfl,rfl,h2,by simpa using h3,by simp [← h1]⟩⟩
theorem row_ex {e:TypeId} {g:Nat} {xs ex:List Value} (h:[(g,Obj.cells (xs++ex).toArray e (0,0))]∈η):Row S w0 η (some ⟨g,0,none⟩) xs :=
 ⟨fun _=>⟨_,rfl,rfl⟩,fun i v hi=>by
  have h1:=own_mem (S:=S) (w0:=w0) (off:=i) (v:=v) h (by
   have h2:=(List.getElem?_eq_some_iff.1 hi).1
   simp only [List.getElem?_toArray]
   rw [List.getElem?_append_left h2]; exact hi)
  have h3:sAt (some ⟨g,0,none⟩) i=⟨g,i,none⟩:=by simp [sAt]
  rw [h3]; exact h1⟩
theorem rowKey {a:Option Addr} {l:List NH} (h:Row S w0 η a (l.flatMap nhC)) {i:Nat} (hi:i<l.length):∀ j v,(kC l[i].nd.key)[j]?=some v→At S w0 η ⟨(sAt a (i*4)).block,(sAt a (i*4)).off+0+j,Option.none⟩ v:=fun j v hj=>by
 have:=h.tabA nhC_len hi j v (by match j,hj with | 0,h=>exact h | 1,h=>exact h)
 simpa using this
def mv (L:List NH) (x:NH) (j:Nat):List NH:=L.take j++x::L.drop j
theorem mv_len {L:List NH} {x:NH} {j:Nat} (h:j≤L.length):(mv L x j).length=L.length+1:=by simp [mv]; omega
theorem mv_at {L:List NH} {x:NH} {j:Nat} (h:j≤L.length) (h2:j<(mv L x j).length):(mv L x j)[j]=x:=by
 have h3:(mv L x j)[j]?=some x:=by
  unfold mv
  rw [List.getElem?_append_right (by simp; omega)]
  simp [Nat.min_eq_left h]
 exact (List.getElem?_eq_some_iff.1 h3).2
theorem mv_pre {L:List NH} {x:NH} {j:Nat} (h:j<L.length) (h2:j<(mv L x (j+1)).length):(mv L x (j+1))[j]=L[j]:=by
 have h3:(mv L x (j+1))[j]?=some L[j]:=by
  unfold mv
  rw [List.getElem?_append_left (by simp; omega),List.getElem?_take_of_lt (by omega),List.getElem?_eq_getElem h]
 exact (List.getElem?_eq_some_iff.1 h3).2
theorem mv_flat {L:List NH} {x:NH} {j:Nat} (h:j<L.length) (ex:List Value):(mv L x (j+1)).flatMap nhC++ex=(L.take j).flatMap nhC++nhC L[j]++(nhC x++((L.drop (j+1)).flatMap nhC++ex)):=by
 unfold mv
 rw [List.take_succ_eq_append_getElem h,List.flatMap_append,List.flatMap_append,List.flatMap_cons,List.flatMap_cons,List.flatMap_nil,List.append_nil]
 simp only [List.append_assoc]
theorem mv_flat2 {L:List NH} {x:NH} {j:Nat} (h:j<L.length) (ex:List Value):(mv L x j).flatMap nhC++ex=(L.take j).flatMap nhC++nhC x++(nhC L[j]++((L.drop (j+1)).flatMap nhC++ex)):=by
 unfold mv
 rw [List.drop_eq_getElem_cons h,List.flatMap_append,List.flatMap_cons,List.flatMap_cons]
 simp only [List.append_assoc]
theorem flat4 (l:List NH):(l.flatMap nhC).length=l.length*4:=by
 induction l with
 | nil=>rfl
 | cons x r ih=>rw [List.flatMap_cons,List.length_append,ih]; simp [nhC]; omega
theorem put1 {L:List NH} {x:NH} {j:Nat} (h:j<L.length) (ex:List Value) {o:Nat} (ho:o=(j+1)*4):((mv L x (j+1)).flatMap nhC++ex).take o++nhC L[j]++((mv L x (j+1)).flatMap nhC++ex).drop (o+(nhC L[j]).length)=(L.take j).flatMap nhC++nhC L[j]++(nhC L[j]++((L.drop (j+1)).flatMap nhC++ex)):=by
 rw [mv_flat h,← List.append_assoc ((L.take j).flatMap nhC++nhC L[j]) (nhC x)]
 rw [put_mid (u:=nhC x) (v:=nhC L[j]) (by rw [List.length_append,flat4,List.length_take,ho]; simp [nhC]; omega) rfl]
 simp only [List.append_assoc]
theorem put2 {L:List NH} {x:NH} {j:Nat} (h:j<L.length) (ex:List Value) {o:Nat} (ho:o=j*4):((L.take j).flatMap nhC++nhC L[j]++(nhC L[j]++((L.drop (j+1)).flatMap nhC++ex))).take o++nhC x++((L.take j).flatMap nhC++nhC L[j]++(nhC L[j]++((L.drop (j+1)).flatMap nhC++ex))).drop (o+(nhC x).length)=(mv L x j).flatMap nhC++ex:=by
 rw [mv_flat2 h,put_mid (u:=nhC L[j]) (v:=nhC x) (by rw [flat4,List.length_take,ho]; omega) rfl]
def srtH (l:List NH):List NH:=l.foldl (fun L x=>insH x L) []
theorem srtH_nds (l:List NH):nds (srtH l)=sortN (nds l):=by
 unfold srtH sortN
 have key:∀ (l acc:List NH),nds (l.foldl (fun L x=>insH x L) acc)=(nds l).foldl (fun L x=>insN x L) (nds acc):=by
  intro l
  induction l with
  | nil=>intro acc; rfl
  | cons x r ih=>intro acc; simp only [List.foldl_cons]; rw [ih,insH_nds]; rfl
 exact key l []
theorem srtH_snoc {l:List NH} {i:Nat} (h:i<l.length):srtH (l.take (i+1))=insH l[i] (srtH (l.take i)):=by
 unfold srtH; rw [List.take_succ_eq_append_getElem h,List.foldl_append]; rfl
structure OS5 where
 i:Nat
 a:Option Addr
 c:Nat
 g:Seg
set_option maxHeartbeats 4000000 in
theorem ordered_fn {a : Option Addr} {l : List NH} {c : Nat} (hx : NL S w0 η a l) (hl : l.length < 1000000) :
  Rt Tryz.prog 57 [.slice a l.length c].toArray S w0 η (fun v η'=>∃ oa oc og,v = .slice oa l.length oc∧OSl 54 4 (.slice oa l.length oc) l.length ((srtH l).flatMap nhC) og∧η'=og::η):=by
 have hF:=open_wide
 refine Rt.of (fn:=Tryz.f57) Tryz.func57 rfl rfl ?_
 refine T.seq ?_
 refine T.region ?_
 refine TL.assign hF rfl rfl ?_
 refine TL.nil ?_
 refine TQ.then_n ?_
 refine T.seq ?_
 refine T.region ?_
 refine TL.buildSlice hF rfl (cs:=#[]) (e:=54) (fun w=>by kernel_rfl) rfl (fun b7=>?_)
 refine TL.assign hF rfl rfl ?_
 refine TL.nil ?_
 refine TQ.then_n ?_
 refine T.seq ?_
 refine T.seq ?_
 refine T.region ?_
 refine TL.assign hF rfl rfl ?_
 refine TL.nil ?_
 refine TQ.then_n ?_
 refine T.block ?_
 refine T.loop (ι:=OS5) (fun s=>s.i≤l.length∧HUp (srtH (l.take s.i))∧(srtH (l.take s.i)).length=s.i∧OSl 54 4 (.slice s.a s.i s.c) s.i ((srtH (l.take s.i)).flatMap nhC) s.g) (fun s=>[(0,.slice a l.length c),(2,.slice none 0 0),(3,.slice s.a s.i s.c),(4,.int .i64 (s.i:Int))]) (fun s=>s.g::η) (fun s=>l.length - s.i) ⟨0,some ⟨b7,0,none⟩,0,[(b7,Obj.cells #[] 54 (0,0))]⟩ ⟨Nat.zero_le _,List.Pairwise.nil,rfl,osl_empty⟩ ⟨rfl,rfl,rfl,rfl,trivial⟩ rfl ?_
 rintro ⟨i,oa,oc,og⟩ ⟨hi,hup,hsl,ho⟩
 dsimp only at hi hup hsl ho
 refine T.seq ?_
 refine T.seq ?_
 refine T.region ?_
 refine TL.move hF rfl rfl ?_
 refine TL.move hF rfl rfl ?_
 refine TL.len hF rfl rfl ?_
 refine TL.bin hF rfl rfl rfl rfl ?_
 refine TL.nil ?_
 refine TQ.then_n ?_
 first | refine T.cond_d rfl (fun ht11=>?_) (fun ht11=>?_) | refine T.cond _ rfl (fun ht11=>?_) (fun ht11=>?_)
 ·refine T.skip ?_
  refine TQ.then_n ?_
  refine T.seq ?_
  refine T.block ?_
  refine T.seq ?_
  refine T.region ?_
  refine TL.move hF rfl rfl ?_
  refine TL.move hF rfl rfl ?_
  refine TL.move hF rfl rfl ?_
  have hil:i<l.length:=by have h:(i:Int)<(l.length:Int):=ht11; omega
  refine TL.indexAddr hF rfl rfl (hx.ad hil) (by dsimp only; omega) (by dsimp only; omega) rfl ?_
  refine TL.loadA hF (nhC l[i]) rfl rfl ((hx.up (fun s hs=>by simp [hs])).atA (i:=i) hil) rfl ?_
  refine TL.buildSlice hF rfl (cs:=(nhC l[i]).toArray) (e:=54) (fun w=>by kernel_rfl) rfl (fun bq=>?_)
  refine TL.append hF 1 rfl rfl rfl ho (row_own (cs:=nhC l[i]) (e:=54) (by simp)).src rfl rfl (nhC1 _) (by omega) (by omega) rfl (fun pa pc pg ph=>?_)
  rw [flat_snoc] at ph
  refine TL.hsub (pg::η) (List.sublist_cons_self _ _) ?_
  obtain ⟨g,cap,ex,hv,rfl,hcap,hlen⟩:=osl_cells ph (Nat.succ_pos _)
  simp only [Value.slice.injEq,true_and] at hv
  obtain ⟨rfl,rfl⟩:=hv
  have hm0:(srtH (l.take i))++[l[i]]=mv (srtH (l.take i)) l[i] i:=by unfold mv; rw [List.take_of_length_le (l:=(srtH (l.take i))) (by omega),List.drop_of_length_le (l:=(srtH (l.take i))) (by omega)]
  rw [hm0] at hlen ⊢
  refine TL.assign hF rfl rfl ?_
  refine TL.nil ?_
  refine TQ.then_n ?_
  refine T.seq ?_
  refine T.region ?_
  refine TL.move hF rfl rfl ?_
  refine TL.len hF rfl rfl ?_
  refine TL.sub hF rfl rfl (by omega) (by omega) rfl ?_
  refine TL.assign hF rfl rfl ?_
  refine TL.nil ?_
  refine TQ.then_n ?_
  refine T.block ?_
  refine T.loop (ι:=Nat) (fun j=>j≤i∧∀ y∈(srtH (l.take i)).drop j,kLt l[i].nd.key y.nd.key=true) (fun j=>[(0,.slice a l.length c),(2,.slice none 0 0),(3,.slice (some ⟨g,0,none⟩) (i+1) pc),(4,.int .i64 (i:Int)),(5,.int .i64 (j:Int))]) (fun j=>[(g,Obj.cells ((mv (srtH (l.take i)) l[i] j).flatMap nhC++ex).toArray 54 (0,0))]::η) (fun j=>j) i ⟨Nat.le_refl _,by rw [List.drop_of_length_le (l:=(srtH (l.take i))) (by omega)]; simp⟩ ⟨rfl,rfl,rfl,rfl,congrArg (fun z=>some (Value.int .i64 z)) (by first | omega | (dsimp only; omega)),trivial⟩ rfl ?_
  rintro j ⟨hji,hgt⟩
  refine T.seq ?_
  refine T.seq ?_
  rcases Nat.eq_zero_or_pos j with hj0 | hj0
  ·skip
   refine T.draw ?_
   refine DR.stepV [_] rfl [(5,_,none)] rfl rfl ⟨⟨rfl,by kernel_rfl⟩,trivial⟩ (fun ext=>TL.move hF rfl rfl TL.fin) ?_
   refine DR.stepV [_,_] rfl [(24,_,some 0)] rfl rfl ⟨⟨rfl,rfl,rfl⟩,trivial⟩ (fun ext=>TL.bin hF rfl rfl rfl rfl TL.fin) ?_
   refine DR.stepV [_,_,_] rfl [(25,_,some 1)] rfl rfl ⟨⟨rfl,rfl,rfl⟩,trivial⟩ (fun ext=>TL.move hF rfl rfl TL.fin) ?_
   refine DR.stepV [_,_,_,_] rfl [(3,_,none),(26,_,some 2)] rfl rfl ⟨⟨rfl,by kernel_rfl⟩,⟨rfl,rfl,rfl⟩,trivial⟩ (fun ext=>TL.off hF rfl rfl rfl (decide_eq_false (by omega)) rfl TL.fin) ?_
   refine DR.stepV [_,_,_,_,_] rfl [(5,_,none),(26,_,some 2)] rfl rfl ⟨⟨rfl,by kernel_rfl⟩,⟨rfl,rfl,rfl⟩,trivial⟩ (fun ext=>TL.off hF rfl rfl rfl (decide_eq_false (by omega)) rfl TL.fin) ?_
   refine DR.stepV [_,_,_,_,_,_] rfl [(27,_,some 3),(28,_,some 4),(26,_,some 2)] rfl rfl ⟨⟨rfl,rfl,rfl⟩,⟨rfl,rfl,rfl⟩,⟨rfl,rfl,rfl⟩,trivial⟩ (fun ext=>TL.off hF rfl rfl rfl (decide_eq_false (by omega)) rfl TL.fin) ?_
   refine DR.stepV [_,_,_,_,_,_,_] rfl [(29,_,some 5),(26,_,some 2)] rfl rfl ⟨⟨rfl,rfl,rfl⟩,⟨rfl,rfl,rfl⟩,trivial⟩ (fun ext=>TL.off hF rfl rfl rfl (decide_eq_false (by omega)) rfl TL.fin) ?_
   refine DR.stepV [_,_,_,_,_,_,_,_] rfl [(30,_,some 6),(26,_,some 2)] rfl rfl ⟨⟨rfl,rfl,rfl⟩,⟨rfl,rfl,rfl⟩,trivial⟩ (fun ext=>TL.off hF rfl rfl rfl (decide_eq_false (by omega)) rfl TL.fin) ?_
   refine DR.stepV [_,_,_,_,_,_,_,_,_] rfl [(3,_,none),(26,_,some 2)] rfl rfl ⟨⟨rfl,by kernel_rfl⟩,⟨rfl,rfl,rfl⟩,trivial⟩ (fun ext=>TL.off hF rfl rfl rfl (decide_eq_false (by omega)) rfl TL.fin) ?_
   refine DR.stepV [_,_,_,_,_,_,_,_,_,_] rfl [(5,_,none),(26,_,some 2)] rfl rfl ⟨⟨rfl,by kernel_rfl⟩,⟨rfl,rfl,rfl⟩,trivial⟩ (fun ext=>TL.off hF rfl rfl rfl (decide_eq_false (by omega)) rfl TL.fin) ?_
   refine DR.stepV [_,_,_,_,_,_,_,_,_,_,_] rfl [(33,_,some 9),(26,_,some 2)] rfl rfl ⟨⟨rfl,rfl,rfl⟩,⟨rfl,rfl,rfl⟩,trivial⟩ (fun ext=>TL.off hF rfl rfl rfl (decide_eq_false (by omega)) rfl TL.fin) ?_
   refine DR.stepV [_,_,_,_,_,_,_,_,_,_,_,_] rfl [(32,_,some 8),(34,_,some 10),(26,_,some 2)] rfl rfl ⟨⟨rfl,rfl,rfl⟩,⟨rfl,rfl,rfl⟩,⟨rfl,rfl,rfl⟩,trivial⟩ (fun ext=>TL.off hF rfl rfl rfl (decide_eq_false (by omega)) rfl TL.fin) ?_
   refine DR.stepV [_,_,_,_,_,_,_,_,_,_,_,_,_] rfl [(35,_,some 11),(26,_,some 2)] rfl rfl ⟨⟨rfl,rfl,rfl⟩,⟨rfl,rfl,rfl⟩,trivial⟩ (fun ext=>TL.off hF rfl rfl rfl (decide_eq_false (by omega)) rfl TL.fin) ?_
   refine DR.stepV [_,_,_,_,_,_,_,_,_,_,_,_,_,_] rfl [(36,_,some 12),(26,_,some 2)] rfl rfl ⟨⟨rfl,rfl,rfl⟩,⟨rfl,rfl,rfl⟩,trivial⟩ (fun ext=>TL.off hF rfl rfl rfl (decide_eq_false (by omega)) rfl TL.fin) ?_
   refine DR.done [(37,_),(36,_),(35,_),(34,_),(33,_),(32,_),(31,_),(30,_),(29,_),(28,_),(27,_),(26,_),(25,_),(24,_)] [_,_] mixed (by kernel_rfl) (by kernel_rfl) (by kernel_rfl) rfl rfl ?_
   refine TL.off hF rfl rfl rfl (decide_eq_false (by omega)) rfl ?_
   refine TL.pickF hF rfl (decide_eq_false (by omega)) rfl rfl ?_
   refine TL.nil ?_
   refine TQ.then_n ?_
   refine T.cond_f rfl rfl ?_
   refine T.exit ?_
   refine TQ.then_x ?_
   refine TQ.then_x ?_
   refine TQ.block_x ?_
   refine TQ.block_n ?_
   refine TQ.then_n ?_
   refine T.region ?_
   refine TL.move hF rfl rfl ?_
   refine TL.add hF rfl rfl (by first | omega | (dsimp only; omega)) (by first | omega | (dsimp only; omega)) rfl ?_
   refine TL.assign hF rfl rfl ?_
   refine TL.nil ?_
   have hins:insH l[i] (srtH (l.take i))=mv (srtH (l.take i)) l[i] j:=by
    have h:=insH_at (x:=l[i]) (P:=(srtH (l.take i)).take (j)) (Q:=(srtH (l.take i)).drop (j)) (by rw [hj0]; simp) hgt
    rw [List.take_append_drop] at h; exact h
   have hupn:HUp (mv (srtH (l.take i)) l[i] j):=hup_ins (by rw [List.take_append_drop]; exact hup) (by rw [hj0]; simp) hgt
   refine TQ.round ⟨i+1,some ⟨g,0,none⟩,pc,[(g,Obj.cells ((mv (srtH (l.take i)) l[i] j).flatMap nhC++ex).toArray 54 (0,0))]⟩ ⟨by dsimp only; omega,by dsimp only; rw [srtH_snoc hil,hins]; exact hupn,by dsimp only; rw [srtH_snoc hil,insH_len,hsl],?_⟩ (by dsimp only; omega) ⟨rfl,rfl,rfl,rfl,trivial⟩ rfl
   dsimp only
   rw [srtH_snoc hil,hins]
   refine osl_of (by rw [flat4,mv_len (by omega)]; omega) hcap ?_
   rw [List.length_append,flat4,mv_len (by omega)] at hlen ⊢
   exact hlen
  ·obtain ⟨k,rfl⟩:∃ k,j=k+1:=⟨j - 1,by omega⟩
   have hkl:k<(srtH (l.take i)).length:=by omega
   have hml:=mv_len (x:=l[i]) (show k+1≤(srtH (l.take i)).length by omega)
   have hkm:k<(mv (srtH (l.take i)) l[i] (k+1)).length:=by omega
   have hjm:k+1<(mv (srtH (l.take i)) l[i] (k+1)).length:=by omega
   have hM1:=mv_at (x:=l[i]) (show k+1≤(srtH (l.take i)).length by omega) hjm
   have hM0:=mv_pre (x:=l[i]) hkl hkm
   have hkn:(((k+1:Nat):Int)-1).toNat=k:=by omega
   have hrow:Row S w0 ([(g,Obj.cells ((mv (srtH (l.take i)) l[i] (k+1)).flatMap nhC++ex).toArray 54 (0,0))]::η) (some ⟨g,0,none⟩) ((mv (srtH (l.take i)) l[i] (k+1)).flatMap nhC):=row_ex (List.mem_cons.2 (.inl rfl))
   refine T.draw ?_
   refine DR.stepV [_] rfl [(5,_,none)] rfl rfl ⟨⟨rfl,by kernel_rfl⟩,trivial⟩ (fun ext=>TL.move hF rfl rfl TL.fin) ?_
   refine DR.stepV [_,_] rfl [(24,_,some 0)] rfl rfl ⟨⟨rfl,rfl,rfl⟩,trivial⟩ (fun ext=>TL.bin hF rfl rfl rfl rfl TL.fin) ?_
   refine DR.stepV [_,_,_] rfl [(25,_,some 1)] rfl rfl ⟨⟨rfl,rfl,rfl⟩,trivial⟩ (fun ext=>TL.move hF rfl rfl TL.fin) ?_
   refine DR.stepV [_,_,_,_] rfl [(3,_,none),(26,_,some 2)] rfl rfl ⟨⟨rfl,by kernel_rfl⟩,⟨rfl,rfl,rfl⟩,trivial⟩ (fun ext=>TL.on rfl rfl rfl (decide_eq_true (by omega)) <| TL.move hF rfl rfl TL.fin) ?_
   refine DR.stepV [_,_,_,_,_] rfl [(5,_,none),(26,_,some 2)] rfl rfl ⟨⟨rfl,by kernel_rfl⟩,⟨rfl,rfl,rfl⟩,trivial⟩ (fun ext=>TL.on rfl rfl rfl (decide_eq_true (by omega)) <| TL.move hF rfl rfl TL.fin) ?_
   refine DR.stepV [_,_,_,_,_,_] rfl [(27,_,some 3),(28,_,some 4),(26,_,some 2)] rfl rfl ⟨⟨rfl,rfl,rfl⟩,⟨rfl,rfl,rfl⟩,⟨rfl,rfl,rfl⟩,trivial⟩ (fun ext=>TL.on rfl rfl rfl (decide_eq_true (by omega)) <| TL.indexAddr hF rfl rfl ⟨_,rfl,rfl⟩ (by omega) (by omega) rfl TL.fin) ?_
   refine DR.stepV [_,_,_,_,_,_,_] rfl [(29,_,some 5),(26,_,some 2)] rfl rfl ⟨⟨rfl,rfl,rfl⟩,⟨rfl,rfl,rfl⟩,trivial⟩ (fun ext=>TL.on rfl rfl rfl (decide_eq_true (by omega)) <| TL.fieldAddr hF rfl rfl TL.fin) ?_
   refine DR.stepV [_,_,_,_,_,_,_,_] rfl [(30,_,some 6),(26,_,some 2)] rfl rfl ⟨⟨rfl,rfl,rfl⟩,⟨rfl,rfl,rfl⟩,trivial⟩ (fun ext=>TL.on rfl rfl rfl (decide_eq_true (by omega)) <| TL.loadA hF (kC l[i].nd.key) rfl rfl (fun jj v hv=>rowKey hrow hjm jj v (by rw [hM1]; exact hv)) rfl TL.fin) ?_
   refine DR.stepV [_,_,_,_,_,_,_,_,_] rfl [(3,_,none),(26,_,some 2)] rfl rfl ⟨⟨rfl,by kernel_rfl⟩,⟨rfl,rfl,rfl⟩,trivial⟩ (fun ext=>TL.on rfl rfl rfl (decide_eq_true (by omega)) <| TL.move hF rfl rfl TL.fin) ?_
   refine DR.stepV [_,_,_,_,_,_,_,_,_,_] rfl [(5,_,none),(26,_,some 2)] rfl rfl ⟨⟨rfl,by kernel_rfl⟩,⟨rfl,rfl,rfl⟩,trivial⟩ (fun ext=>TL.on rfl rfl rfl (decide_eq_true (by omega)) <| TL.move hF rfl rfl TL.fin) ?_
   refine DR.stepV [_,_,_,_,_,_,_,_,_,_,_] rfl [(33,_,some 9),(26,_,some 2)] rfl rfl ⟨⟨rfl,rfl,rfl⟩,⟨rfl,rfl,rfl⟩,trivial⟩ (fun ext=>TL.on rfl rfl rfl (decide_eq_true (by omega)) <| TL.sub hF rfl rfl (by omega) (by omega) rfl TL.fin) ?_
   refine DR.stepV [_,_,_,_,_,_,_,_,_,_,_,_] rfl [(32,_,some 8),(34,_,some 10),(26,_,some 2)] rfl rfl ⟨⟨rfl,rfl,rfl⟩,⟨rfl,rfl,rfl⟩,⟨rfl,rfl,rfl⟩,trivial⟩ (fun ext=>TL.on rfl rfl rfl (decide_eq_true (by omega)) <| TL.indexAddr hF rfl rfl ⟨_,rfl,rfl⟩ (by omega) (by omega) rfl TL.fin) ?_
   refine DR.stepV [_,_,_,_,_,_,_,_,_,_,_,_,_] rfl [(35,_,some 11),(26,_,some 2)] rfl rfl ⟨⟨rfl,rfl,rfl⟩,⟨rfl,rfl,rfl⟩,trivial⟩ (fun ext=>TL.on rfl rfl rfl (decide_eq_true (by omega)) <| TL.fieldAddr hF rfl rfl TL.fin) ?_
   refine DR.stepV [_,_,_,_,_,_,_,_,_,_,_,_,_,_] rfl [(36,_,some 12),(26,_,some 2)] rfl rfl ⟨⟨rfl,rfl,rfl⟩,⟨rfl,rfl,rfl⟩,trivial⟩ (fun ext=>TL.on rfl rfl rfl (decide_eq_true (by omega)) <| TL.loadA hF (kC (srtH (l.take i))[k].nd.key) rfl rfl (fun jj v hv=>by rw [hkn]; exact rowKey hrow hkm jj v (by rw [hM0]; exact hv)) rfl TL.fin) ?_
   refine DR.done [(37,_),(36,_),(35,_),(34,_),(33,_),(32,_),(31,_),(30,_),(29,_),(28,_),(27,_),(26,_),(25,_),(24,_)] [_,_] mixed (by kernel_rfl) (by kernel_rfl) (by kernel_rfl) rfl rfl ?_
   refine TL.on rfl rfl rfl (decide_eq_true (by omega)) ?_
   refine TL.callV hF (ahead_fn) rfl rfl ?_
   refine TL.pickT hF rfl (decide_eq_true (by omega)) rfl rfl ?_
   refine TL.nil ?_
   refine TQ.then_n ?_
   refine T.cond _ rfl (fun ht39=>?_) (fun ht39=>?_)
   ·refine T.skip ?_
    refine TQ.then_n ?_
    refine T.seq ?_
    refine T.block ?_
    refine T.seq ?_
    refine T.region ?_
    refine TL.move hF rfl rfl ?_
    refine TL.move hF rfl rfl ?_
    refine TL.indexAddr hF rfl rfl ⟨_,rfl,rfl⟩ (by omega) (by omega) rfl ?_
    refine TL.loadA hF (nhC l[i]) rfl rfl (fun jj v hv=>hrow.tabA nhC_len hjm jj v (by rw [hM1]; exact hv)) rfl ?_
    refine TL.alloc hF rfl (fun b6=>?_)
    refine TL.storeAs hF (nhC l[i]) (nhC l[i]) 0 (cs:=[.int .i64 0,.int .i64 0,.int .i64 0,.slice none 0 0]) rfl rfl rfl rfl (nhC1 _) (Nat.le_refl 4) rfl ?_
    refine TL.nil ?_
    refine TQ.then_n ?_
    have hrow2:Row S w0 ([(b6,Obj.cells (nhC l[i]).toArray 54 (0,0))]::[(g,Obj.cells ((mv (srtH (l.take i)) l[i] (k+1)).flatMap nhC++ex).toArray 54 (0,0))]::η) (some ⟨g,0,none⟩) ((mv (srtH (l.take i)) l[i] (k+1)).flatMap nhC):=row_ex (ex:=ex) (e:=54) (List.mem_cons.2 (.inr (List.mem_cons.2 (.inl rfl))))
    refine T.drawH 13 mixed ?_
    refine DH.pure (i:=0) [(3,_,none)] rfl rfl rfl rfl ⟨⟨rfl,by kernel_rfl⟩,trivial⟩ (fun _ ext=>TL.move hF rfl rfl TL.fin) ?_
    refine DH.pure (i:=1) [(5,_,none)] rfl rfl rfl rfl ⟨⟨rfl,by kernel_rfl⟩,trivial⟩ (fun _ ext=>TL.move hF rfl rfl TL.fin) ?_
    refine DH.pure (i:=2) [(3,_,none)] rfl rfl rfl rfl ⟨⟨rfl,by kernel_rfl⟩,trivial⟩ (fun _ ext=>TL.move hF rfl rfl TL.fin) ?_
    refine DH.pure (i:=3) [(5,_,none)] rfl rfl rfl rfl ⟨⟨rfl,by kernel_rfl⟩,trivial⟩ (fun _ ext=>TL.move hF rfl rfl TL.fin) ?_
    refine DH.pure (i:=4) [(49,_,some 3)] rfl rfl rfl rfl ⟨⟨rfl,rfl,rfl⟩,trivial⟩ (fun _ ext=>TL.sub hF rfl rfl (by omega) (by omega) rfl TL.fin) ?_
    refine DH.pure (i:=5) [(3,_,none)] rfl rfl rfl rfl ⟨⟨rfl,by kernel_rfl⟩,trivial⟩ (fun _ ext=>TL.move hF rfl rfl TL.fin) ?_
    refine DH.pure (i:=6) [(5,_,none)] rfl rfl rfl rfl ⟨⟨rfl,by kernel_rfl⟩,trivial⟩ (fun _ ext=>TL.move hF rfl rfl TL.fin) ?_
    refine DH.pure (i:=7) [(52,_,some 6)] rfl rfl rfl rfl ⟨⟨rfl,rfl,rfl⟩,trivial⟩ (fun _ ext=>TL.sub hF rfl rfl (by omega) (by omega) rfl TL.fin) ?_
    refine DH.pure (i:=8) [(51,_,some 5),(53,_,some 7)] rfl rfl rfl rfl ⟨⟨rfl,rfl,rfl⟩,⟨rfl,rfl,rfl⟩,trivial⟩ (fun _ ext=>TL.indexAddr hF rfl rfl ⟨_,rfl,rfl⟩ (by omega) (by omega) rfl TL.fin) ?_
    refine DH.read (i:=9) [(54,_,some 8)] rfl rfl rfl rfl ⟨⟨rfl,rfl,rfl⟩,trivial⟩ (fun ext=>TL.loadA hF (nhC (srtH (l.take i))[k]) rfl rfl (fun jj v hv=>by rw [hkn]; exact hrow2.tabA nhC_len hkm jj v (by rw [hM0]; exact hv)) rfl TL.fin) ?_
    refine DH.read (i:=10) [(6,_,none)] rfl rfl rfl rfl ⟨⟨rfl,by kernel_rfl⟩,trivial⟩ (fun ext=>TL.loadA hF (nhC l[i]) rfl rfl (own_listM (b:=b6) (cs:=nhC l[i]) (e:=54) (fz:=(0,0)) (by simp)) rfl TL.fin) ?_
    refine DH.pure (i:=11) [(46,_,some 0),(47,_,some 1)] rfl rfl rfl rfl ⟨⟨rfl,rfl,rfl⟩,⟨rfl,rfl,rfl⟩,trivial⟩ (fun _ ext=>TL.indexAddr hF rfl rfl ⟨_,rfl,rfl⟩ (by omega) (by omega) rfl TL.fin) ?_
    refine DH.k1 (by kernel_rfl) (by kernel_rfl) (by kernel_rfl) (by kernel_rfl) (HBK.mk (h:=12) [10] [(57,_,some 11),(55,_,some 9)] rfl rfl rfl ⟨⟨rfl,rfl,rfl⟩,⟨rfl,rfl,rfl⟩,trivial⟩ (by kernel_rfl) (fun ext=>?_))
    refine TL.storeAs hF (nhC (srtH (l.take i))[k]) _ 1 (cs:=(mv (srtH (l.take i)) l[i] (k+1)).flatMap nhC++ex) rfl rfl rfl rfl (nhC1 _) (by have h9:=flat4 (mv (srtH (l.take i)) l[i] (k+1)); rw [hml] at h9; have h8:(sAt (some ⟨g,0,none⟩) (((k+1:Nat):Int).toNat*4)).off=(k+1)*4:=(by simp [sAt]); exact Nat.le_trans (Nat.le_of_eq (congrArg (· + 4) h8)) (by rw [List.length_append,h9]; omega)) (put1 hkl ex (by simp)) ?_
    refine TL.finKN ⟨⟨_,rfl,_,_,[(6,_,none)],rfl,rfl,⟨⟨rfl,by kernel_rfl⟩,trivial⟩,fun ext=>TL.loadA hF (nhC l[i]) rfl rfl (own_listM (b:=b6) (cs:=nhC l[i]) (e:=54) (fz:=(0,0)) (by simp)) rfl TL.fin⟩,trivial⟩ ?_
    refine DH.done [(57,_),(56,_),(55,_),(54,_),(53,_),(52,_),(51,_),(50,_),(49,_),(48,_),(47,_),(46,_)] [_,_] (by kernel_rfl) (by kernel_rfl) (by kernel_rfl) (by kernel_rfl) rfl rfl ?_
    refine TL.indexAddr hF rfl rfl ⟨_,rfl,rfl⟩ (by omega) (by omega) rfl ?_
    refine TL.storeAs hF (nhC l[i]) _ 1 (cs:=((srtH (l.take i)).take k).flatMap nhC++nhC (srtH (l.take i))[k]++(nhC (srtH (l.take i))[k]++(((srtH (l.take i)).drop (k+1)).flatMap nhC++ex))) rfl rfl rfl rfl (nhC1 _) (by have h9:=flat4 ((srtH (l.take i)).take k); rw [List.length_take,Nat.min_eq_left (by omega)] at h9; rw [hkn]; simp only [List.length_append,h9]; simp [nhC] <;> omega) (put2 hkl ex (by rw [hkn] <;> simp)) ?_
    refine TL.nil ?_
    refine TQ.block_n ?_
    refine TQ.then_n ?_
    refine T.region ?_
    refine TL.move hF rfl rfl ?_
    refine TL.sub hF rfl rfl (by omega) (by omega) rfl ?_
    refine TL.assign hF rfl rfl ?_
    refine TL.nil ?_
    refine TQ.pop ?_
    refine TQ.round k ⟨by omega,fun y hy=>?_⟩ (by omega) ⟨rfl,rfl,rfl,rfl,congrArg (fun z=>some (Value.int .i64 z)) (by omega),trivial⟩ rfl
    rw [List.drop_eq_getElem_cons hkl] at hy
    rcases List.mem_cons.1 hy with rfl | hy
    ·simpa using ht39
    ·exact hgt y hy
   ·refine T.exit ?_
    refine TQ.then_x ?_
    refine TQ.then_x ?_
    refine TQ.block_x ?_
    refine TQ.block_n ?_
    refine TQ.then_n ?_
    refine T.region ?_
    refine TL.move hF rfl rfl ?_
    refine TL.add hF rfl rfl (by first | omega | (dsimp only; omega)) (by first | omega | (dsimp only; omega)) rfl ?_
    refine TL.assign hF rfl rfl ?_
    refine TL.nil ?_
    have hins:insH l[i] (srtH (l.take i))=mv (srtH (l.take i)) l[i] (k+1):=by
     have h:=insH_at (x:=l[i]) (P:=(srtH (l.take i)).take ((k+1))) (Q:=(srtH (l.take i)).drop ((k+1))) (by rw [List.take_succ_eq_append_getElem hkl]; refine hup_low (Q:=(srtH (l.take i)).drop (k+1)) ?_ (by simpa using ht39); rw [← List.take_succ_eq_append_getElem hkl,List.take_append_drop]; exact hup) hgt
     rw [List.take_append_drop] at h; exact h
    have hupn:HUp (mv (srtH (l.take i)) l[i] (k+1)):=hup_ins (by rw [List.take_append_drop]; exact hup) (by rw [List.take_succ_eq_append_getElem hkl]; refine hup_low (Q:=(srtH (l.take i)).drop (k+1)) ?_ (by simpa using ht39); rw [← List.take_succ_eq_append_getElem hkl,List.take_append_drop]; exact hup) hgt
    refine TQ.round ⟨i+1,some ⟨g,0,none⟩,pc,[(g,Obj.cells ((mv (srtH (l.take i)) l[i] (k+1)).flatMap nhC++ex).toArray 54 (0,0))]⟩ ⟨by dsimp only; omega,by dsimp only; rw [srtH_snoc hil,hins]; exact hupn,by dsimp only; rw [srtH_snoc hil,insH_len,hsl],?_⟩ (by dsimp only; omega) ⟨rfl,rfl,rfl,rfl,trivial⟩ rfl
    dsimp only
    rw [srtH_snoc hil,hins]
    refine osl_of (by rw [flat4,mv_len (by omega)]; omega) hcap ?_
    rw [List.length_append,flat4,mv_len (by omega)] at hlen ⊢
    exact hlen
 ·refine T.exit ?_
  refine TQ.then_x ?_
  refine TQ.then_x ?_
  refine TQ.block_x ?_
  refine TQ.then_n ?_
  refine T.seq ?_
  refine T.region ?_
  refine TL.move hF rfl rfl ?_
  refine TL.assign hF rfl rfl ?_
  refine TL.nil ?_
  refine TQ.then_n ?_
  refine T.ret ?_
  have hie:l.length≤i:=by have h:¬ (i:Int)<(l.length:Int):=ht11; omega
  rw [List.take_of_length_le hie] at ho hsl
  refine TQ.rets [2] _ rfl rfl rfl ?_
  exact ⟨oa,oc,og,by rw [show l.length=i by omega]; rfl,by rw [show l.length=i by omega]; exact ho,rfl⟩
end Go.Proofs.YtdiacobmhkmljaaGreatDoor
/- The reference: a trace against another one. -/
namespace Go.Proofs.YtdiacobmhkmljaaGreatDoor
open Go.Sl
variable {S:Nat→Prop} {w0:World} {η:Heap}
structure AR where
 i:Nat
 a1:Option Addr
 c1:Nat
 g1:Seg
 a2:Option Addr
 c2:Nat
 g2:Seg
 a3:Option Addr
 c3:Nat
 g3:Seg
def wordOf (l:List Nd) (k:Key):Int:=match findN l k with | some x=>x.word | none=>0
set_option maxHeartbeats 4000000 in
theorem againstR_fn {R : Heap} {ao an : Option Addr} {lo ln : List NH} {co cn : Nat} {top : Key} (hxo : NL S w0 R ao lo) (hxn : NL S w0 R an ln) (hlo : lo.length < 1000000) (hln : ln.length < 1000000) :
  Rt Tryz.prog 45 [.slice ao lo.length co,.slice an ln.length cn,kV top].toArray S w0 R (fun v η'=>∃ x segs,v = .agg (rhC x).toArray∧x.r=againstS (nds lo) (nds ln) (wordOf (nds ln) top)∧RM S w0 segs x∧η'=segs++R):=by
 have hF:=open_wide
 refine Rt.of (fn:=Tryz.f45) Tryz.func45 rfl rfl ?_
 refine T.seq ?_
 refine T.region ?_
 refine TL.box hF rfl rfl (fun b5=>?_)
 refine TL.alloc hF rfl (fun b6=>?_)
 refine TL.nil ?_
 refine TQ.then_n ?_
 refine T.seq ?_
 refine T.region ?_
 refine TL.build hF rfl (r:=.agg ([.int .i64 0,.slice none 0 0,.slice none 0 0,.slice none 0 0,.slice none 0 0]:List Value).toArray) (fun w=>by kernel_rfl) rfl ?_
 refine TL.alloc hF rfl (fun b7=>?_)
 refine TL.storeAs hF [.int .i64 0,.slice none 0 0,.slice none 0 0,.slice none 0 0,.slice none 0 0] [.int .i64 0,.slice none 0 0,.slice none 0 0,.slice none 0 0,.slice none 0 0] 0 (cs:=[.int .i64 0,.slice none 0 0,.slice none 0 0,.slice none 0 0,.slice none 0 0]) rfl rfl rfl rfl (by simp [Value.oneCell']) (Nat.le_refl 5) rfl ?_
 refine TL.nil ?_
 refine TQ.then_n ?_
 refine T.seq ?_
 refine T.seq ?_
 refine T.region ?_
 refine TL.assign hF rfl rfl ?_
 refine TL.nil ?_
 refine TQ.then_n ?_
 refine T.block ?_
 refine T.hnil (T.hnil (T.hnil ?_))
 refine T.pick [3,0,1,2] [_,_,_,_] rfl rfl rfl ?_
 refine T.loop (ι:=AR) (fun s=>s.i≤ln.length∧OK s.a1 s.c1 (keysN (((nds ln).take s.i).filter (againB (nds lo)))) s.g1∧OK s.a2 s.c2 (keysN (((nds ln).take s.i).filter (fun x=>!hasN (nds lo) x.key))) s.g2∧OK s.a3 s.c3 (keysN (((nds ln).take s.i).filter (keptB (nds lo)))) s.g3) (fun s=>[(0,.slice ao lo.length co),(1,.slice an ln.length cn),(5,ptr b5),(6,ptr b6),(7,ptr b7),(8,.int .i64 (s.i:Int))]) (fun s=>[(b7,Obj.cells #[.int .i64 (0),.slice s.a1 (keysN (((nds ln).take s.i).filter (againB (nds lo)))).length s.c1,.slice s.a2 (keysN (((nds ln).take s.i).filter (fun x=>!hasN (nds lo) x.key))).length s.c2,.slice s.a3 (keysN (((nds ln).take s.i).filter (keptB (nds lo)))).length s.c3,.slice none 0 0] 45 (0,0))]::s.g1::s.g2::s.g3::([(b6,Obj.cells ([.int .i64 0,.slice none 0 0,.slice none 0 0,.slice none 0 0,.slice none 0 0]:List Value).toArray 45 (0,0))]::[(b5,Obj.cells (kC top).toArray 25 (0,0))]::R)) (fun s=>ln.length - s.i) ⟨0,none,0,[],none,0,[],none,0,[]⟩ ⟨Nat.zero_le _,OSl.nil _ _,OSl.nil _ _,OSl.nil _ _⟩ ⟨rfl,rfl,rfl,rfl,rfl,rfl,trivial⟩ rfl ?_
 rintro ⟨i,a1,c1,g1,a2,c2,g2,a3,c3,g3⟩ ⟨hi,ho1,ho2,ho3⟩
 dsimp only at hi ho1 ho2 ho3
 have q1:=keysF_len (nds ln) (againB (nds lo)) i
 have q2:=keysF_len (nds ln) (fun x=>!hasN (nds lo) x.key) i
 have q3:=keysF_len (nds ln) (keptB (nds lo)) i
 have hnl:(nds ln).length=ln.length:=nds_len ln
 have hol:(nds lo).length=lo.length:=nds_len lo
 refine T.seq ?_
 refine T.seq ?_
 refine T.region ?_
 refine TL.move hF rfl rfl ?_
 refine TL.move hF rfl rfl ?_
 refine TL.len hF rfl rfl ?_
 refine TL.bin hF rfl rfl rfl rfl ?_
 refine TL.nil ?_
 refine TQ.then_n ?_
 first | refine T.cond_d rfl (fun ht20=>?_) (fun ht20=>?_) | refine T.cond _ rfl (fun ht20=>?_) (fun ht20=>?_)
 ·refine T.skip ?_
  refine TQ.then_n ?_
  refine T.seq ?_
  refine T.block ?_
  refine T.seq ?_
  refine T.region ?_
  refine TL.move hF rfl rfl ?_
  refine TL.move hF rfl rfl ?_
  refine TL.move hF rfl rfl ?_
  have hil:i<ln.length:=by have h:(i:Int)<(ln.length:Int):=ht20; omega
  have hin:i<(nds ln).length:=by omega
  have y1:=keysF_yes (l:=(nds ln)) (p:=(againB (nds lo))) hin
  have y2:=keysF_yes (l:=(nds ln)) (p:=(fun x=>!hasN (nds lo) x.key)) hin
  have y3:=keysF_yes (l:=(nds ln)) (p:=(keptB (nds lo))) hin
  have z1:=keysF_no (l:=(nds ln)) (p:=(againB (nds lo))) hin
  have z2:=keysF_no (l:=(nds ln)) (p:=(fun x=>!hasN (nds lo) x.key)) hin
  have z3:=keysF_no (l:=(nds ln)) (p:=(keptB (nds lo))) hin
  rw [nds_get hil] at y1 y2 y3 z1 z2 z3
  refine TL.indexAddr hF rfl rfl (hxn.ad hil) (by dsimp only; omega) (by dsimp only; omega) rfl ?_
  refine TL.fieldAddr hF rfl rfl ?_
  refine TL.loadA hF (kC ln[i].nd.key) rfl rfl ((hxn.up (fun s hs=>by simp [hs])).keyAt hil) rfl ?_
  refine TL.call hF (findR_fn (k:=ln[i].nd.key) (hxo.up (fun s hs=>by simp [hs])) (by omega)) rfl rfl ?_
  rintro _ _ ⟨y,hb,rfl,hy,rfl⟩
  have hbb:=hy.has
  refine TL.move hF rfl rfl ?_
  refine TL.extract hF rfl rfl rfl ?_
  refine TL.extract hF rfl rfl rfl ?_
  refine TL.alloc hF rfl (fun b9=>?_)
  refine TL.storeAs hF (nhC y) (nhC y) 0 (cs:=[.int .i64 0,.int .i64 0,.int .i64 0,.slice none 0 0]) rfl rfl rfl rfl (nhC1 _) (Nat.le_refl 4) rfl ?_
  refine TL.assign hF rfl rfl ?_
  refine TL.nil ?_
  refine TQ.then_n ?_
  refine T.block ?_
  refine T.seq ?_
  refine T.region ?_
  refine TL.move hF rfl rfl ?_
  refine TL.not hF rfl rfl ?_
  refine TL.assign hF rfl rfl ?_
  refine TL.nil ?_
  refine TQ.then_n ?_
  refine T.cond _ rfl (fun ht43=>?_) (fun ht43=>?_)
  ·refine T.drawH 8 mixed ?_
   refine DH.pure (i:=0) [(7,_,none)] rfl rfl rfl rfl ⟨⟨rfl,by kernel_rfl⟩,trivial⟩ (fun _ ext=>TL.fieldAddr hF rfl rfl TL.fin) ?_
   refine DH.read (i:=1) [(46,_,some 0)] rfl rfl rfl rfl ⟨⟨rfl,rfl,rfl⟩,trivial⟩ (fun ext=>TL.load hF rfl (own_mem (b:=b7) (cs:=#[.int .i64 0,.slice a1 (keysN (((nds ln).take i).filter (againB (nds lo)))).length c1,.slice a2 (keysN (((nds ln).take i).filter (fun x=>!hasN (nds lo) x.key))).length c2,.slice a3 (keysN (((nds ln).take i).filter (keptB (nds lo)))).length c3,.slice none 0 0]) (e:=45) (fz:=(0,0)) (by simp) rfl) rfl TL.fin) ?_
   refine DH.pure (i:=2) [(1,_,none)] rfl rfl rfl rfl ⟨⟨rfl,by kernel_rfl⟩,trivial⟩ (fun _ ext=>TL.move hF rfl rfl TL.fin) ?_
   refine DH.pure (i:=3) [(8,_,none)] rfl rfl rfl rfl ⟨⟨rfl,by kernel_rfl⟩,trivial⟩ (fun _ ext=>TL.move hF rfl rfl TL.fin) ?_
   refine DH.pure (i:=4) [(48,_,some 2),(49,_,some 3)] rfl rfl rfl rfl ⟨⟨rfl,rfl,rfl⟩,⟨rfl,rfl,rfl⟩,trivial⟩ (fun _ ext=>TL.indexAddr hF rfl rfl (hxn.ad hil) (by dsimp only; omega) (by dsimp only; omega) rfl TL.fin) ?_
   refine DH.pure (i:=5) [(50,_,some 4)] rfl rfl rfl rfl ⟨⟨rfl,rfl,rfl⟩,trivial⟩ (fun _ ext=>TL.fieldAddr hF rfl rfl TL.fin) ?_
   refine DH.read (i:=6) [(51,_,some 5)] rfl rfl rfl rfl ⟨⟨rfl,rfl,rfl⟩,trivial⟩ (fun ext=>TL.loadA hF (kC ln[i].nd.key) rfl rfl ((hxn.up (fun s hs=>by simp [hs])).keyAt hil) rfl TL.fin) ?_
   refine DH.k1 (by kernel_rfl) (by kernel_rfl) (by kernel_rfl) (by kernel_rfl) (HBK.mk (h:=7) [1] [(52,_,some 6)] rfl rfl rfl ⟨⟨rfl,rfl,rfl⟩,trivial⟩ (by kernel_rfl) (fun ext=>?_))
   refine TL.buildSlice hF rfl (cs:=(kC ln[i].nd.key).toArray) (e:=25) (fun w=>by kernel_rfl) rfl (fun bq=>?_)
   refine TL.finK ⟨⟨_,rfl,_,_,[(46,_,some 0)],rfl,rfl,⟨⟨rfl,rfl,rfl⟩,trivial⟩,fun ext=>TL.load hF rfl (own_mem (b:=b7) (cs:=#[.int .i64 0,.slice a1 (keysN (((nds ln).take i).filter (againB (nds lo)))).length c1,.slice a2 (keysN (((nds ln).take i).filter (fun x=>!hasN (nds lo) x.key))).length c2,.slice a3 (keysN (((nds ln).take i).filter (keptB (nds lo)))).length c3,.slice none 0 0]) (e:=45) (fz:=(0,0)) (by simp) rfl) rfl TL.fin⟩,trivial⟩ ?_
   refine DH.done [(53,_),(52,_),(51,_),(50,_),(49,_),(48,_),(47,_),(46,_)] [_,_,_] (by kernel_rfl) (by kernel_rfl) (by kernel_rfl) (by kernel_rfl) rfl rfl ?_
   refine TL.append hF 4 rfl rfl rfl ho2 (row_own (cs:=kC ln[i].nd.key) (e:=25) (by simp)).src rfl rfl (kC1 _) (by omega) (by omega) rfl (fun pa pc pg ph=>?_)
   rw [flat_snoc] at ph
   refine TL.fieldAddr hF rfl rfl ?_
   refine TL.storeI hF 2 rfl rfl rfl rfl (by simp) ?_
   refine TL.nil ?_
   refine TQ.block_n ?_
   refine TQ.block_n ?_
   refine TQ.then_n ?_
   refine T.region ?_
   refine TL.move hF rfl rfl ?_
   refine TL.add hF rfl rfl (by dsimp only; omega) (by dsimp only; omega) rfl ?_
   refine TL.assign hF rfl rfl ?_
   refine TL.nil ?_
   have hbf:hb=false:=by simpa using ht43
   have hyn:=(hy.2 hbf).1
   have hN:(fun x=>!hasN (nds lo) x.key) ln[i].nd=true:=by simp [hasN,hyn]
   have hA:(againB (nds lo)) ln[i].nd=false:=by simp [againB,hyn]
   have hK:(keptB (nds lo)) ln[i].nd=false:=by simp [keptB,hyn]
   refine TQ.pop (TQ.pop ?_)
   refine TQ.round ⟨i+1,a1,c1,g1,pa,pc,pg,a3,c3,g3⟩ ⟨by dsimp only; omega,by dsimp only; rw [z1 hA]; exact ho1,by dsimp only; rw [y2 hN]; exact ok_push ph,by dsimp only; rw [z3 hK]; exact ho3⟩ (by dsimp only; omega) ⟨rfl,rfl,rfl,rfl,rfl,rfl,trivial⟩ ?_
   dsimp only
   rw [z1 hA,y2 hN,z3 hK,List.length_append]
   rfl
  ·refine T.seq ?_
   have hbt:hb=true:=by simpa using ht43
   have hym:=(hy.1 hbt).1
   have hyf:=(hy.1 hbt).2
   refine T.draw ?_
   refine DR.stepV [_] rfl [(9,_,none)] rfl rfl ⟨⟨rfl,by kernel_rfl⟩,trivial⟩ (fun ext=>TL.fieldAddr hF rfl rfl TL.fin) ?_
   refine DR.stepV [_,_] rfl [(57,_,some 0)] rfl rfl ⟨⟨rfl,rfl,rfl⟩,trivial⟩ (fun ext=>TL.load hF rfl (own_mem (b:=b9) (cs:=(nhC y).toArray) (e:=54) (fz:=(0,0)) (by simp) rfl) rfl TL.fin) ?_
   refine DR.stepV [_,_,_] rfl [(1,_,none)] rfl rfl ⟨⟨rfl,by kernel_rfl⟩,trivial⟩ (fun ext=>TL.move hF rfl rfl TL.fin) ?_
   refine DR.stepV [_,_,_,_] rfl [(8,_,none)] rfl rfl ⟨⟨rfl,by kernel_rfl⟩,trivial⟩ (fun ext=>TL.move hF rfl rfl TL.fin) ?_
   refine DR.stepV [_,_,_,_,_] rfl [(59,_,some 2),(60,_,some 3)] rfl rfl ⟨⟨rfl,rfl,rfl⟩,⟨rfl,rfl,rfl⟩,trivial⟩ (fun ext=>TL.indexAddr hF rfl rfl (hxn.ad hil) (by dsimp only; omega) (by dsimp only; omega) rfl TL.fin) ?_
   refine DR.stepV [_,_,_,_,_,_] rfl [(61,_,some 4)] rfl rfl ⟨⟨rfl,rfl,rfl⟩,trivial⟩ (fun ext=>TL.fieldAddr hF rfl rfl TL.fin) ?_
   refine DR.stepV [_,_,_,_,_,_,_] rfl [(62,_,some 5)] rfl rfl ⟨⟨rfl,rfl,rfl⟩,trivial⟩ (fun ext=>TL.load hF rfl ((hxn.up (fun s hs=>by simp [hs])).depsAt hil) rfl TL.fin) ?_
   refine DR.done [(63,_),(62,_),(61,_),(60,_),(59,_),(58,_),(57,_)] [_,_] mixed (by kernel_rfl) (by kernel_rfl) (by kernel_rfl) rfl rfl ?_
   refine TL.callV hF (SameDeps_fn (((hxo.item y hym).row).up (fun s hs=>by simp [hs])) ((hxn.it hil).row.up (fun s hs=>by simp [hs])) (by have:=(hxo.item y hym).len; omega)) rfl rfl ?_
   refine TL.assign hF rfl rfl ?_
   refine TL.nil ?_
   refine TQ.then_n ?_
   refine T.cond _ rfl (fun ht56=>?_) (fun ht56=>?_)
   ·refine T.drawH 8 mixed ?_
    refine DH.pure (i:=0) [(7,_,none)] rfl rfl rfl rfl ⟨⟨rfl,by kernel_rfl⟩,trivial⟩ (fun _ ext=>TL.fieldAddr hF rfl rfl TL.fin) ?_
    refine DH.read (i:=1) [(65,_,some 0)] rfl rfl rfl rfl ⟨⟨rfl,rfl,rfl⟩,trivial⟩ (fun ext=>TL.load hF rfl (own_mem (b:=b7) (cs:=#[.int .i64 0,.slice a1 (keysN (((nds ln).take i).filter (againB (nds lo)))).length c1,.slice a2 (keysN (((nds ln).take i).filter (fun x=>!hasN (nds lo) x.key))).length c2,.slice a3 (keysN (((nds ln).take i).filter (keptB (nds lo)))).length c3,.slice none 0 0]) (e:=45) (fz:=(0,0)) (by simp) rfl) rfl TL.fin) ?_
    refine DH.pure (i:=2) [(1,_,none)] rfl rfl rfl rfl ⟨⟨rfl,by kernel_rfl⟩,trivial⟩ (fun _ ext=>TL.move hF rfl rfl TL.fin) ?_
    refine DH.pure (i:=3) [(8,_,none)] rfl rfl rfl rfl ⟨⟨rfl,by kernel_rfl⟩,trivial⟩ (fun _ ext=>TL.move hF rfl rfl TL.fin) ?_
    refine DH.pure (i:=4) [(67,_,some 2),(68,_,some 3)] rfl rfl rfl rfl ⟨⟨rfl,rfl,rfl⟩,⟨rfl,rfl,rfl⟩,trivial⟩ (fun _ ext=>TL.indexAddr hF rfl rfl (hxn.ad hil) (by dsimp only; omega) (by dsimp only; omega) rfl TL.fin) ?_
    refine DH.pure (i:=5) [(69,_,some 4)] rfl rfl rfl rfl ⟨⟨rfl,rfl,rfl⟩,trivial⟩ (fun _ ext=>TL.fieldAddr hF rfl rfl TL.fin) ?_
    refine DH.read (i:=6) [(70,_,some 5)] rfl rfl rfl rfl ⟨⟨rfl,rfl,rfl⟩,trivial⟩ (fun ext=>TL.loadA hF (kC ln[i].nd.key) rfl rfl ((hxn.up (fun s hs=>by simp [hs])).keyAt hil) rfl TL.fin) ?_
    refine DH.k1 (by kernel_rfl) (by kernel_rfl) (by kernel_rfl) (by kernel_rfl) (HBK.mk (h:=7) [1] [(71,_,some 6)] rfl rfl rfl ⟨⟨rfl,rfl,rfl⟩,trivial⟩ (by kernel_rfl) (fun ext=>?_))
    refine TL.buildSlice hF rfl (cs:=(kC ln[i].nd.key).toArray) (e:=25) (fun w=>by kernel_rfl) rfl (fun bq=>?_)
    refine TL.finK ⟨⟨_,rfl,_,_,[(65,_,some 0)],rfl,rfl,⟨⟨rfl,rfl,rfl⟩,trivial⟩,fun ext=>TL.load hF rfl (own_mem (b:=b7) (cs:=#[.int .i64 0,.slice a1 (keysN (((nds ln).take i).filter (againB (nds lo)))).length c1,.slice a2 (keysN (((nds ln).take i).filter (fun x=>!hasN (nds lo) x.key))).length c2,.slice a3 (keysN (((nds ln).take i).filter (keptB (nds lo)))).length c3,.slice none 0 0]) (e:=45) (fz:=(0,0)) (by simp) rfl) rfl TL.fin⟩,trivial⟩ ?_
    refine DH.done [(72,_),(71,_),(70,_),(69,_),(68,_),(67,_),(66,_),(65,_)] [_,_,_] (by kernel_rfl) (by kernel_rfl) (by kernel_rfl) (by kernel_rfl) rfl rfl ?_
    refine TL.append hF 5 rfl rfl rfl ho3 (row_own (cs:=kC ln[i].nd.key) (e:=25) (by simp)).src rfl rfl (kC1 _) (by omega) (by omega) rfl (fun pa pc pg ph=>?_)
    rw [flat_snoc] at ph
    refine TL.fieldAddr hF rfl rfl ?_
    refine TL.storeI hF 2 rfl rfl rfl rfl (by simp) ?_
    refine TL.nil ?_
    refine TQ.block_n ?_
    refine TQ.block_n ?_
    refine TQ.then_n ?_
    refine T.region ?_
    refine TL.move hF rfl rfl ?_
    refine TL.add hF rfl rfl (by dsimp only; omega) (by dsimp only; omega) rfl ?_
    refine TL.assign hF rfl rfl ?_
    refine TL.nil ?_
    have hN:(fun x=>!hasN (nds lo) x.key) ln[i].nd=false:=by simp [hasN,hyf]
    have hdd:y.nd.deps=ln[i].nd.deps:=by simpa using ht56
    have hA:(againB (nds lo)) ln[i].nd=false:=by simp [againB,hyf,hdd]
    have hK:(keptB (nds lo)) ln[i].nd=true:=by simp [keptB,hyf,hdd]
    refine TQ.pop (TQ.pop ?_)
    refine TQ.round ⟨i+1,a1,c1,g1,a2,c2,g2,pa,pc,pg⟩ ⟨by dsimp only; omega,by dsimp only; rw [z1 hA]; exact ho1,by dsimp only; rw [z2 hN]; exact ho2,by dsimp only; rw [y3 hK]; exact ok_push ph⟩ (by dsimp only; omega) ⟨rfl,rfl,rfl,rfl,rfl,rfl,trivial⟩ ?_
    dsimp only
    rw [z1 hA,z2 hN,y3 hK,List.length_append]
    rfl
   ·refine T.drawH 8 mixed ?_
    refine DH.pure (i:=0) [(7,_,none)] rfl rfl rfl rfl ⟨⟨rfl,by kernel_rfl⟩,trivial⟩ (fun _ ext=>TL.fieldAddr hF rfl rfl TL.fin) ?_
    refine DH.read (i:=1) [(33,_,some 0)] rfl rfl rfl rfl ⟨⟨rfl,rfl,rfl⟩,trivial⟩ (fun ext=>TL.load hF rfl (own_mem (b:=b7) (cs:=#[.int .i64 0,.slice a1 (keysN (((nds ln).take i).filter (againB (nds lo)))).length c1,.slice a2 (keysN (((nds ln).take i).filter (fun x=>!hasN (nds lo) x.key))).length c2,.slice a3 (keysN (((nds ln).take i).filter (keptB (nds lo)))).length c3,.slice none 0 0]) (e:=45) (fz:=(0,0)) (by simp) rfl) rfl TL.fin) ?_
    refine DH.pure (i:=2) [(1,_,none)] rfl rfl rfl rfl ⟨⟨rfl,by kernel_rfl⟩,trivial⟩ (fun _ ext=>TL.move hF rfl rfl TL.fin) ?_
    refine DH.pure (i:=3) [(8,_,none)] rfl rfl rfl rfl ⟨⟨rfl,by kernel_rfl⟩,trivial⟩ (fun _ ext=>TL.move hF rfl rfl TL.fin) ?_
    refine DH.pure (i:=4) [(35,_,some 2),(36,_,some 3)] rfl rfl rfl rfl ⟨⟨rfl,rfl,rfl⟩,⟨rfl,rfl,rfl⟩,trivial⟩ (fun _ ext=>TL.indexAddr hF rfl rfl (hxn.ad hil) (by dsimp only; omega) (by dsimp only; omega) rfl TL.fin) ?_
    refine DH.pure (i:=5) [(37,_,some 4)] rfl rfl rfl rfl ⟨⟨rfl,rfl,rfl⟩,trivial⟩ (fun _ ext=>TL.fieldAddr hF rfl rfl TL.fin) ?_
    refine DH.read (i:=6) [(38,_,some 5)] rfl rfl rfl rfl ⟨⟨rfl,rfl,rfl⟩,trivial⟩ (fun ext=>TL.loadA hF (kC ln[i].nd.key) rfl rfl ((hxn.up (fun s hs=>by simp [hs])).keyAt hil) rfl TL.fin) ?_
    refine DH.k1 (by kernel_rfl) (by kernel_rfl) (by kernel_rfl) (by kernel_rfl) (HBK.mk (h:=7) [1] [(39,_,some 6)] rfl rfl rfl ⟨⟨rfl,rfl,rfl⟩,trivial⟩ (by kernel_rfl) (fun ext=>?_))
    refine TL.buildSlice hF rfl (cs:=(kC ln[i].nd.key).toArray) (e:=25) (fun w=>by kernel_rfl) rfl (fun bq=>?_)
    refine TL.finK ⟨⟨_,rfl,_,_,[(33,_,some 0)],rfl,rfl,⟨⟨rfl,rfl,rfl⟩,trivial⟩,fun ext=>TL.load hF rfl (own_mem (b:=b7) (cs:=#[.int .i64 0,.slice a1 (keysN (((nds ln).take i).filter (againB (nds lo)))).length c1,.slice a2 (keysN (((nds ln).take i).filter (fun x=>!hasN (nds lo) x.key))).length c2,.slice a3 (keysN (((nds ln).take i).filter (keptB (nds lo)))).length c3,.slice none 0 0]) (e:=45) (fz:=(0,0)) (by simp) rfl) rfl TL.fin⟩,trivial⟩ ?_
    refine DH.done [(40,_),(39,_),(38,_),(37,_),(36,_),(35,_),(34,_),(33,_)] [_,_,_] (by kernel_rfl) (by kernel_rfl) (by kernel_rfl) (by kernel_rfl) rfl rfl ?_
    refine TL.append hF 3 rfl rfl rfl ho1 (row_own (cs:=kC ln[i].nd.key) (e:=25) (by simp)).src rfl rfl (kC1 _) (by omega) (by omega) rfl (fun pa pc pg ph=>?_)
    rw [flat_snoc] at ph
    refine TL.fieldAddr hF rfl rfl ?_
    refine TL.storeI hF 2 rfl rfl rfl rfl (by simp) ?_
    refine TL.nil ?_
    refine TQ.block_n ?_
    refine TQ.block_n ?_
    refine TQ.then_n ?_
    refine T.region ?_
    refine TL.move hF rfl rfl ?_
    refine TL.add hF rfl rfl (by dsimp only; omega) (by dsimp only; omega) rfl ?_
    refine TL.assign hF rfl rfl ?_
    refine TL.nil ?_
    have hN:(fun x=>!hasN (nds lo) x.key) ln[i].nd=false:=by simp [hasN,hyf]
    have hdd:¬ y.nd.deps=ln[i].nd.deps:=by simpa using ht56
    have hA:(againB (nds lo)) ln[i].nd=true:=by simp [againB,hyf,hdd]
    have hK:(keptB (nds lo)) ln[i].nd=false:=by simp [keptB,hyf,hdd]
    refine TQ.pop (TQ.pop ?_)
    refine TQ.round ⟨i+1,pa,pc,pg,a2,c2,g2,a3,c3,g3⟩ ⟨by dsimp only; omega,by dsimp only; rw [y1 hA]; exact ok_push ph,by dsimp only; rw [z2 hN]; exact ho2,by dsimp only; rw [z3 hK]; exact ho3⟩ (by dsimp only; omega) ⟨rfl,rfl,rfl,rfl,rfl,rfl,trivial⟩ ?_
    dsimp only
    rw [y1 hA,z2 hN,z3 hK,List.length_append]
    rfl
 ·refine T.exit ?_
  refine TQ.then_x ?_
  refine TQ.then_x ?_
  refine TQ.block_x ?_
  refine TQ.then_n ?_
  refine T.seq ?_
  refine T.seq ?_
  refine T.region ?_
  refine TL.assign hF rfl rfl ?_
  refine TL.nil ?_
  refine TQ.then_n ?_
  refine T.block ?_
  have hin:i=ln.length:=by have h:¬ (i:Int)<(ln.length:Int):=ht20; omega
  subst hin
  refine T.hnil ?_
  refine T.pick [1,0] [_,_] rfl rfl rfl ?_
  refine T.loop (ι:=Nat × Option Addr × Nat × Seg) (fun s=>s.1≤lo.length∧OK s.2.1 s.2.2.1 (keysN (((nds lo).take s.1).filter (fun x=>!hasN (nds ln) x.key))) s.2.2.2) (fun s=>[(0,.slice ao lo.length co),(1,.slice an ln.length cn),(5,ptr b5),(6,ptr b6),(7,ptr b7),(11,.int .i64 (s.1:Int))]) (fun s=>[(b7,Obj.cells #[.int .i64 (0),.slice a1 (keysN (((nds ln).take ln.length).filter (againB (nds lo)))).length c1,.slice a2 (keysN (((nds ln).take ln.length).filter (fun x=>!hasN (nds lo) x.key))).length c2,.slice a3 (keysN (((nds ln).take ln.length).filter (keptB (nds lo)))).length c3,.slice s.2.1 (keysN (((nds lo).take s.1).filter (fun x=>!hasN (nds ln) x.key))).length s.2.2.1] 45 (0,0))]::s.2.2.2::(g1::g2::g3::([(b6,Obj.cells ([.int .i64 0,.slice none 0 0,.slice none 0 0,.slice none 0 0,.slice none 0 0]:List Value).toArray 45 (0,0))]::[(b5,Obj.cells (kC top).toArray 25 (0,0))]::R))) (fun s=>lo.length - s.1) (0,none,0,[]) ⟨Nat.zero_le _,OSl.nil _ _⟩ ⟨rfl,rfl,rfl,rfl,rfl,rfl,trivial⟩ rfl ?_
  rintro ⟨i,a4,c4,g4⟩ ⟨hi2,ho4⟩
  dsimp only at hi2 ho4
  have q4:=keysF_len (nds lo) (fun x=>!hasN (nds ln) x.key) i
  refine T.seq ?_
  refine T.seq ?_
  refine T.region ?_
  refine TL.move hF rfl rfl ?_
  refine TL.move hF rfl rfl ?_
  refine TL.len hF rfl rfl ?_
  refine TL.bin hF rfl rfl rfl rfl ?_
  refine TL.nil ?_
  refine TQ.then_n ?_
  first | refine T.cond_d rfl (fun ht78=>?_) (fun ht78=>?_) | refine T.cond _ rfl (fun ht78=>?_) (fun ht78=>?_)
  ·refine T.skip ?_
   refine TQ.then_n ?_
   refine T.seq ?_
   refine T.block ?_
   refine T.seq ?_
   refine T.region ?_
   refine TL.move hF rfl rfl ?_
   refine TL.move hF rfl rfl ?_
   refine TL.move hF rfl rfl ?_
   have hil:i<lo.length:=by have h:(i:Int)<(lo.length:Int):=ht78; omega
   have hin:i<(nds lo).length:=by omega
   have y1:=keysF_yes (l:=(nds lo)) (p:=(fun x=>!hasN (nds ln) x.key)) hin
   have z1:=keysF_no (l:=(nds lo)) (p:=(fun x=>!hasN (nds ln) x.key)) hin
   rw [nds_get hil] at y1 z1
   refine TL.indexAddr hF rfl rfl (hxo.ad hil) (by dsimp only; omega) (by dsimp only; omega) rfl ?_
   refine TL.fieldAddr hF rfl rfl ?_
   refine TL.loadA hF (kC lo[i].nd.key) rfl rfl ((hxo.up (fun s hs=>by simp [hs])).keyAt hil) rfl ?_
   refine TL.call hF (findR_fn (k:=lo[i].nd.key) (hxn.up (fun s hs=>by simp [hs])) (by omega)) rfl rfl ?_
   rintro _ _ ⟨y,hb,rfl,hy,rfl⟩
   have hbb:=hy.has
   refine TL.move hF rfl rfl ?_
   refine TL.extract hF rfl rfl rfl ?_
   refine TL.extract hF rfl rfl rfl ?_
   refine TL.alloc hF rfl (fun b12=>?_)
   refine TL.storeAs hF (nhC y) (nhC y) 0 (cs:=[.int .i64 0,.int .i64 0,.int .i64 0,.slice none 0 0]) rfl rfl rfl rfl (nhC1 _) (Nat.le_refl 4) rfl ?_
   refine TL.assign hF rfl rfl ?_
   refine TL.nil ?_
   refine TQ.then_n ?_
   refine T.seq ?_
   refine T.region ?_
   refine TL.move hF rfl rfl ?_
   refine TL.not hF rfl rfl ?_
   refine TL.nil ?_
   refine TQ.then_n ?_
   refine T.cond _ rfl (fun ht92=>?_) (fun ht92=>?_)
   ·refine T.drawH 8 mixed ?_
    refine DH.pure (i:=0) [(7,_,none)] rfl rfl rfl rfl ⟨⟨rfl,by kernel_rfl⟩,trivial⟩ (fun _ ext=>TL.fieldAddr hF rfl rfl TL.fin) ?_
    refine DH.read (i:=1) [(93,_,some 0)] rfl rfl rfl rfl ⟨⟨rfl,rfl,rfl⟩,trivial⟩ (fun ext=>TL.load hF rfl (own_mem (b:=b7) (cs:=#[.int .i64 0,.slice a1 (keysN (((nds ln).take ln.length).filter (againB (nds lo)))).length c1,.slice a2 (keysN (((nds ln).take ln.length).filter (fun x=>!hasN (nds lo) x.key))).length c2,.slice a3 (keysN (((nds ln).take ln.length).filter (keptB (nds lo)))).length c3,.slice a4 (keysN (((nds lo).take i).filter (fun x=>!hasN (nds ln) x.key))).length c4]) (e:=45) (fz:=(0,0)) (by simp) rfl) rfl TL.fin) ?_
    refine DH.pure (i:=2) [(0,_,none)] rfl rfl rfl rfl ⟨⟨rfl,by kernel_rfl⟩,trivial⟩ (fun _ ext=>TL.move hF rfl rfl TL.fin) ?_
    refine DH.pure (i:=3) [(11,_,none)] rfl rfl rfl rfl ⟨⟨rfl,by kernel_rfl⟩,trivial⟩ (fun _ ext=>TL.move hF rfl rfl TL.fin) ?_
    refine DH.pure (i:=4) [(95,_,some 2),(96,_,some 3)] rfl rfl rfl rfl ⟨⟨rfl,rfl,rfl⟩,⟨rfl,rfl,rfl⟩,trivial⟩ (fun _ ext=>TL.indexAddr hF rfl rfl (hxo.ad hil) (by dsimp only; omega) (by dsimp only; omega) rfl TL.fin) ?_
    refine DH.pure (i:=5) [(97,_,some 4)] rfl rfl rfl rfl ⟨⟨rfl,rfl,rfl⟩,trivial⟩ (fun _ ext=>TL.fieldAddr hF rfl rfl TL.fin) ?_
    refine DH.read (i:=6) [(98,_,some 5)] rfl rfl rfl rfl ⟨⟨rfl,rfl,rfl⟩,trivial⟩ (fun ext=>TL.loadA hF (kC lo[i].nd.key) rfl rfl ((hxo.up (fun s hs=>by simp [hs])).keyAt hil) rfl TL.fin) ?_
    refine DH.k1 (by kernel_rfl) (by kernel_rfl) (by kernel_rfl) (by kernel_rfl) (HBK.mk (h:=7) [1] [(99,_,some 6)] rfl rfl rfl ⟨⟨rfl,rfl,rfl⟩,trivial⟩ (by kernel_rfl) (fun ext=>?_))
    refine TL.buildSlice hF rfl (cs:=(kC lo[i].nd.key).toArray) (e:=25) (fun w=>by kernel_rfl) rfl (fun bq=>?_)
    refine TL.finK ⟨⟨_,rfl,_,_,[(93,_,some 0)],rfl,rfl,⟨⟨rfl,rfl,rfl⟩,trivial⟩,fun ext=>TL.load hF rfl (own_mem (b:=b7) (cs:=#[.int .i64 0,.slice a1 (keysN (((nds ln).take ln.length).filter (againB (nds lo)))).length c1,.slice a2 (keysN (((nds ln).take ln.length).filter (fun x=>!hasN (nds lo) x.key))).length c2,.slice a3 (keysN (((nds ln).take ln.length).filter (keptB (nds lo)))).length c3,.slice a4 (keysN (((nds lo).take i).filter (fun x=>!hasN (nds ln) x.key))).length c4]) (e:=45) (fz:=(0,0)) (by simp) rfl) rfl TL.fin⟩,trivial⟩ ?_
    refine DH.done [(100,_),(99,_),(98,_),(97,_),(96,_),(95,_),(94,_),(93,_)] [_,_,_] (by kernel_rfl) (by kernel_rfl) (by kernel_rfl) (by kernel_rfl) rfl rfl ?_
    refine TL.append hF 3 rfl rfl rfl ho4 (row_own (cs:=kC lo[i].nd.key) (e:=25) (by simp)).src rfl rfl (kC1 _) (by omega) (by omega) rfl (fun pa pc pg ph=>?_)
    rw [flat_snoc] at ph
    refine TL.fieldAddr hF rfl rfl ?_
    refine TL.storeI hF 2 rfl rfl rfl rfl (by simp) ?_
    refine TL.nil ?_
    refine TQ.block_n ?_
    refine TQ.then_n ?_
    refine T.region ?_
    refine TL.move hF rfl rfl ?_
    refine TL.add hF rfl rfl (by dsimp only; omega) (by dsimp only; omega) rfl ?_
    refine TL.assign hF rfl rfl ?_
    refine TL.nil ?_
    have hbf:hb=false:=by simpa using ht92
    have hD:(fun x=>!hasN (nds ln) x.key) lo[i].nd=true:=by simp [← hbb,hbf]
    refine TQ.pop (TQ.pop ?_)
    refine TQ.round (i+1,pa,pc,pg) ⟨by dsimp only; omega,by dsimp only; rw [y1 hD]; exact ok_push ph⟩ (by dsimp only; omega) ⟨rfl,rfl,rfl,rfl,rfl,rfl,trivial⟩ ?_
    dsimp only
    rw [y1 hD,List.length_append]
    rfl
   ·refine T.skip ?_
    refine TQ.block_n ?_
    refine TQ.then_n ?_
    refine T.region ?_
    refine TL.move hF rfl rfl ?_
    refine TL.add hF rfl rfl (by dsimp only; omega) (by dsimp only; omega) rfl ?_
    refine TL.assign hF rfl rfl ?_
    refine TL.nil ?_
    have hbt:hb=true:=by simpa using ht92
    have hD:(fun x=>!hasN (nds ln) x.key) lo[i].nd=false:=by simp [← hbb,hbt]
    refine TQ.pop ?_
    refine TQ.round (i+1,a4,c4,g4) ⟨by dsimp only; omega,by dsimp only; rw [z1 hD]; exact ho4⟩ (by dsimp only; omega) ⟨rfl,rfl,rfl,rfl,rfl,rfl,trivial⟩ ?_
    dsimp only
    rw [z1 hD]
  ·refine T.exit ?_
   refine TQ.then_x ?_
   refine TQ.then_x ?_
   refine TQ.block_x ?_
   refine TQ.then_n ?_
   refine T.seq ?_
   refine T.region ?_
   refine TL.move hF rfl rfl ?_
   have hin2:i=lo.length:=by have h:¬ (i:Int)<(lo.length:Int):=ht78; omega
   subst hin2
   refine TL.loadA hF (kC top) rfl rfl (own_listM (b:=b5) (cs:=kC top) (e:=25) (fz:=(0,0)) (by simp)) rfl ?_
   refine TL.call hF (findR_fn (k:=top) (hxn.up (fun s hs=>by simp [hs])) (by omega)) rfl rfl ?_
   rintro _ _ ⟨y,hb,rfl,hy,rfl⟩
   have hyw:y.nd.word=wordOf (nds ln) top:=by
    unfold wordOf
    cases hb with
    | true=>rw [(hy.1 rfl).2]
    | false=>rw [(hy.2 rfl).1,(hy.2 rfl).2]; rfl
   refine TL.move hF rfl rfl ?_
   refine TL.extract hF rfl rfl rfl ?_
   refine TL.extract hF rfl rfl rfl ?_
   refine TL.alloc hF rfl (fun b14=>?_)
   refine TL.storeAs hF (nhC y) (nhC y) 0 (cs:=[.int .i64 0,.int .i64 0,.int .i64 0,.slice none 0 0]) rfl rfl rfl rfl (nhC1 _) (Nat.le_refl 4) rfl ?_
   refine TL.assign hF rfl rfl ?_
   refine TL.nil ?_
   refine TQ.then_n ?_
   refine T.seq ?_
   refine T.region ?_
   refine TL.fieldAddr hF rfl rfl ?_
   refine TL.load hF rfl (own_mem (b:=b14) (cs:=(nhC y).toArray) (e:=54) (fz:=(0,0)) (by simp) rfl) rfl ?_
   refine TL.fieldAddr hF rfl rfl ?_
   refine TL.storeI hF 1 rfl rfl rfl rfl (by simp) ?_
   refine TL.nil ?_
   refine TQ.then_n ?_
   refine T.seq ?_
   refine T.region ?_
   refine TL.loadA hF ([.int .i64 (y.nd.word),.slice a1 (keysN (((nds ln).take ln.length).filter (againB (nds lo)))).length c1,.slice a2 (keysN (((nds ln).take ln.length).filter (fun x=>!hasN (nds lo) x.key))).length c2,.slice a3 (keysN (((nds ln).take ln.length).filter (keptB (nds lo)))).length c3,.slice a4 (keysN (((nds lo).take lo.length).filter (fun x=>!hasN (nds ln) x.key))).length c4]) rfl rfl (own_list (i:=1) (cs:=[.int .i64 (y.nd.word),.slice a1 (keysN (((nds ln).take ln.length).filter (againB (nds lo)))).length c1,.slice a2 (keysN (((nds ln).take ln.length).filter (fun x=>!hasN (nds lo) x.key))).length c2,.slice a3 (keysN (((nds ln).take ln.length).filter (keptB (nds lo)))).length c3,.slice a4 (keysN (((nds lo).take lo.length).filter (fun x=>!hasN (nds ln) x.key))).length c4]) rfl) rfl ?_
   refine TL.storeAs hF ([.int .i64 (y.nd.word),.slice a1 (keysN (((nds ln).take ln.length).filter (againB (nds lo)))).length c1,.slice a2 (keysN (((nds ln).take ln.length).filter (fun x=>!hasN (nds lo) x.key))).length c2,.slice a3 (keysN (((nds ln).take ln.length).filter (keptB (nds lo)))).length c3,.slice a4 (keysN (((nds lo).take lo.length).filter (fun x=>!hasN (nds ln) x.key))).length c4]) ([.int .i64 (y.nd.word),.slice a1 (keysN (((nds ln).take ln.length).filter (againB (nds lo)))).length c1,.slice a2 (keysN (((nds ln).take ln.length).filter (fun x=>!hasN (nds lo) x.key))).length c2,.slice a3 (keysN (((nds ln).take ln.length).filter (keptB (nds lo)))).length c3,.slice a4 (keysN (((nds lo).take lo.length).filter (fun x=>!hasN (nds ln) x.key))).length c4]) 6 (cs:=[.int .i64 0,.slice none 0 0,.slice none 0 0,.slice none 0 0,.slice none 0 0]) rfl rfl rfl rfl (by simp [Value.oneCell']) (Nat.le_refl 5) rfl ?_
   refine TL.nil ?_
   refine TQ.then_n ?_
   refine T.ret ?_
   have hra:againstS (nds lo) (nds ln) (wordOf (nds ln) top)=⟨wordOf (nds ln) top,keysN (((nds ln).take ln.length).filter (againB (nds lo))),keysN (((nds ln).take ln.length).filter (fun x=>!hasN (nds lo) x.key)),keysN (((nds ln).take ln.length).filter (keptB (nds lo))),keysN (((nds lo).take lo.length).filter (fun x=>!hasN (nds ln) x.key))⟩:=by
    unfold againstS
    rw [List.take_of_length_le (l:=nds ln) (by omega),List.take_of_length_le (l:=nds lo) (by omega)]
   refine TQ.retC ([.int .i64 (y.nd.word),.slice a1 (keysN (((nds ln).take ln.length).filter (againB (nds lo)))).length c1,.slice a2 (keysN (((nds ln).take ln.length).filter (fun x=>!hasN (nds lo) x.key))).length c2,.slice a3 (keysN (((nds ln).take ln.length).filter (keptB (nds lo)))).length c3,.slice a4 (keysN (((nds lo).take lo.length).filter (fun x=>!hasN (nds ln) x.key))).length c4]) ([g4,g1,g2,g3]++R) rfl rfl rfl (own_list (i:=6) rfl) ?_ ?_
   ·refine List.Sublist.cons _ (List.Sublist.cons _ (List.Sublist.cons_cons _ (List.Sublist.cons_cons _ (List.Sublist.cons_cons _ (List.Sublist.cons_cons _ (List.Sublist.cons _ (List.sublist_cons_self _ _)))))))
   refine ⟨⟨againstS (nds lo) (nds ln) (wordOf (nds ln) top),a1,c1,a2,c2,a3,c3,a4,c4⟩,[g4,g1,g2,g3],by rw [hra,hyw]; rfl,rfl,?_,rfl⟩
   rw [hra]
   exact ⟨OSl.row ho1 (by simp),OSl.row ho2 (by simp),OSl.row ho3 (by simp),OSl.row ho4 (by simp)⟩
end Go.Proofs.YtdiacobmhkmljaaGreatDoor
/- The reference: what a call, and an expression, are to do. -/
namespace Go.Proofs.YtdiacobmhkmljaaGreatDoor
open Go.Sl
variable {S:Nat→Prop} {w0:World} {η:Heap}
section
variable (S:Nat→Prop) (w0:World) (fa ca:Option Addr) (fl:List TE) (fc cc:Nat) (cells:List Int)
/-- A scene's value. -/
abbrev scV (na:Option Addr) (n nc:Nat):Value:=.agg (scC fa fl.length fc ca cells.length cc na n nc).toArray
/-- Expressions evaluated, where so many calls may be one within the other. -/
def EvalR (f:Nat):Prop:=∀ (e:TE) (arg:Int) (l:List NH) (na:Option Addr) (nc:Nat) (hs η:Heap) (ds:List Dp) (a:Option Addr) (c:Nat) (dg:Seg),
 Row S w0 η ca (ints cells)→Tr S w0 [] e→rightE fl.length e.ex=true→0≤arg→arg≤f→arg≤200→Good (fl.map TE.ex) cells (nds l)→NL S w0 hs na l→OSl 56 5 (.slice a ds.length c) ds.length (ds.flatMap dpC) dg→ds.length+sizeE e.ex≤100 →
  Rt Tryz.prog 72 [scV fa ca fl fc cc cells na l.length nc,teV e,.int .i64 arg,.slice a ds.length c].toArray S w0 (dg::(hs++η)) (fun v η'=>∃ (l':List NH) (na':Option Addr) (nc':Nat) (hs':Heap) (a':Option Addr) (c':Nat) (dg':Seg),
   v = .tuple #[scV fa ca fl fc cc cells na' l'.length nc',.int .i64 (evalS (runS (fl.map TE.ex) cells f) cells arg e.ex (nds l) ds).2.1,.slice a' (evalS (runS (fl.map TE.ex) cells f) cells arg e.ex (nds l) ds).2.2.length c'] ∧
   nds l'=(evalS (runS (fl.map TE.ex) cells f) cells arg e.ex (nds l) ds).1∧NL S w0 hs' na' l'∧OSl 56 5 (.slice a' (evalS (runS (fl.map TE.ex) cells f) cells arg e.ex (nds l) ds).2.2.length c') (evalS (runS (fl.map TE.ex) cells f) cells arg e.ex (nds l) ds).2.2.length ((evalS (runS (fl.map TE.ex) cells f) cells arg e.ex (nds l) ds).2.2.flatMap dpC) dg'∧η'=dg'::(hs'++η))
/-- Calls made. -/
def CallR (f : Nat) : Prop := ∀ (k : Key) (l : List NH) (na : Option Addr) (nc : Nat) (hs η : Heap), Row S w0 η ca (ints cells) → KOk (fl.map TE.ex) f k → Good (fl.map TE.ex) cells (nds l) → NL S w0 hs na l →
  Rt Tryz.prog 56 [scV fa ca fl fc cc cells na l.length nc,kV k].toArray S w0 (hs++η) (fun v η'=>∃ (l':List NH) (na':Option Addr) (nc':Nat) (hs':Heap),
   v = .tuple #[scV fa ca fl fc cc cells na' l'.length nc',.int .i64 (runS (fl.map TE.ex) cells f (nds l) k).2]∧nds l'=(runS (fl.map TE.ex) cells f (nds l) k).1∧NL S w0 hs' na' l'∧η'=hs'++η)
end
end Go.Proofs.YtdiacobmhkmljaaGreatDoor
/- The reference: calls, by what expressions are worth. -/
namespace Go.Proofs.YtdiacobmhkmljaaGreatDoor
open Go.Sl
variable {S:Nat→Prop} {w0:World} {η:Heap}
set_option maxHeartbeats 4000000 in
theorem call_step {fa ca : Option Addr} {fl : List TE} {fc cc : Nat} {cells : List Int} (hfs : Fs S w0 [] fa fl) (_hfl : fl.length < 9223372036854775808) (hsc : Scn (fl.map TE.ex) cells) {f : Nat} (hf : f ≤ 200) (hE : EvalR S w0 fa ca fl fc cc cells f) (k : Key) (l : List NH) (na : Option Addr) (nc : Nat) (hs η : Heap) (hη : Row S w0 η ca (ints cells)) (hk : KOk (fl.map TE.ex) (f + 1 : Nat) k) (hg : Good (fl.map TE.ex) cells (nds l)) (hl : NL S w0 hs na l) :
    Rt Tryz.prog 56 [scV fa ca fl fc cc cells na l.length nc,kV k].toArray S w0 (hs++η) (fun v η'=>∃ (l':List NH) (na':Option Addr) (nc':Nat) (hs':Heap),
      v = .tuple #[scV fa ca fl fc cc cells na' l'.length nc',.int .i64 (runS (fl.map TE.ex) cells (f+1) (nds l) k).2]∧nds l'=(runS (fl.map TE.ex) cells (f+1) (nds l) k).1∧NL S w0 hs' na' l'∧η'=hs'++η):=by
  have hlen:l.length≤1608:=by rw [← nds_len]; exact good_len hsc hg
  have hF:=open_wide
  refine Rt.of (fn:=Tryz.f56) Tryz.func56 rfl rfl ?_
  refine T.seq ?_
  refine T.region ?_
  refine TL.box hF rfl rfl (fun b2=>?_)
  refine TL.box hF rfl rfl (fun b3=>?_)
  refine TL.alloc hF rfl (fun b4=>?_)
  refine TL.assign hF rfl rfl ?_
  refine TL.nil ?_
  refine TQ.then_n ?_
  refine T.seq ?_
  refine T.seq ?_
  refine T.region ?_
  refine TL.loadA hF (scC fa fl.length fc ca cells.length cc na l.length nc) rfl rfl (own_list (i:=2) (cs:=(scC fa fl.length fc ca cells.length cc na l.length nc)) rfl) rfl ?_
  refine TL.loadA hF (kC k) rfl rfl (own_list (i:=1) (cs:=kC k) rfl) rfl ?_
  refine TL.call hF (SceneFind_fn (k:=k) (hl.up (by intro s hs; simp [hs])) (by omega)) rfl rfl ?_
  rintro _ _ ⟨z,rfl,hz,rfl⟩
  refine TL.assign hF rfl rfl ?_
  refine TL.nil ?_
  refine TQ.then_n ?_
  refine T.seq ?_
  refine T.region ?_
  refine TL.move hF rfl rfl ?_
  refine TL.bin hF rfl rfl rfl rfl ?_
  refine TL.nil ?_
  refine TQ.then_n ?_
  refine T.cond_d rfl (fun ht13=>?_) (fun ht13=>?_)
  · refine T.seq ?_
    obtain ⟨i,hil,rfl,hfnd⟩:∃ (i:Nat) (h:i<l.length),z=i∧findN (nds l) k=some l[i].nd:=by
      rcases hz with h | ⟨rfl,_⟩
      · exact h
      · exact absurd ht13 (by decide)
    refine T.drawH 8 mixed ?_
    refine DH.read (i:=0) [(2,_,none)] rfl rfl rfl rfl ⟨⟨rfl,by kernel_rfl⟩,trivial⟩ (fun ext=>TL.loadA hF (scC fa fl.length fc ca cells.length cc na l.length nc) rfl rfl (own_listM (b:=b2) (cs:=(scC fa fl.length fc ca cells.length cc na l.length nc)) (e:=116) (fz:=(0,0)) (List.mem_cons.2 (.inr (List.mem_cons.2 (.inr (List.mem_cons.2 (.inl rfl))))))) rfl TL.fin) ?_
    refine DH.pure (i:=1) [(2,_,none)] rfl rfl rfl rfl ⟨⟨rfl,by kernel_rfl⟩,trivial⟩ (fun _ ext=>TL.fieldAddr hF rfl rfl TL.fin) ?_
    refine DH.read (i:=2) [(15,_,some 1)] rfl rfl rfl rfl ⟨⟨rfl,rfl,rfl⟩,trivial⟩ (fun ext=>TL.load hF rfl (own_mem (b:=b2) (cs:=((scC fa fl.length fc ca cells.length cc na l.length nc)).toArray) (e:=116) (fz:=(0,0)) (List.mem_cons.2 (.inr (List.mem_cons.2 (.inr (List.mem_cons.2 (.inl rfl)))))) rfl) rfl TL.fin) ?_
    refine DH.pure (i:=3) [(6,_,none)] rfl rfl rfl rfl ⟨⟨rfl,by kernel_rfl⟩,trivial⟩ (fun _ ext=>TL.move hF rfl rfl TL.fin) ?_
    refine DH.pure (i:=4) [(16,_,some 2),(17,_,some 3)] rfl rfl rfl rfl ⟨⟨rfl,rfl,rfl⟩,⟨rfl,rfl,rfl⟩,trivial⟩ (fun _ ext=>TL.indexAddr hF rfl rfl (hl.ad hil) (by omega) (by omega) rfl TL.fin) ?_
    refine DH.pure (i:=5) [(18,_,some 4)] rfl rfl rfl rfl ⟨⟨rfl,rfl,rfl⟩,trivial⟩ (fun _ ext=>TL.fieldAddr hF rfl rfl TL.fin) ?_
    refine DH.read (i:=6) [(19,_,some 5)] rfl rfl rfl rfl ⟨⟨rfl,rfl,rfl⟩,trivial⟩ (fun ext=>TL.load hF rfl ((hl.up (by intro s hs; simp [hs])).atA (i:=i) hil 2 _ rfl) rfl TL.fin) ?_
    refine DH.k1 (by kernel_rfl) (by kernel_rfl) (by kernel_rfl) (by kernel_rfl) (HBK.mk (h:=7) [2,6] [(4,_,none),(14,_,some 0)] rfl rfl rfl ⟨⟨rfl,by kernel_rfl⟩,⟨rfl,rfl,rfl⟩,trivial⟩ (by kernel_rfl) (fun ext=>?_))
    refine TL.storeAs hF (scC fa fl.length fc ca cells.length cc na l.length nc) (scC fa fl.length fc ca cells.length cc na l.length nc) 0 (cs:=[.slice none 0 0,.slice none 0 0,.slice none 0 0]) rfl rfl rfl rfl (by simp [Value.oneCell']) (Nat.le_refl 3) rfl ?_
    refine TL.finKN ⟨⟨_,rfl,_,_,[(15,_,some 1)],rfl,rfl,⟨⟨rfl,rfl,rfl⟩,trivial⟩,fun ext=>TL.load hF rfl (own_mem (b:=b2) (cs:=((scC fa fl.length fc ca cells.length cc na l.length nc)).toArray) (e:=116) (fz:=(0,0)) (List.mem_cons.2 (.inr (List.mem_cons.2 (.inr (List.mem_cons.2 (.inl rfl)))))) rfl) rfl TL.fin⟩,⟨_,rfl,_,_,[(19,_,some 5)],rfl,rfl,⟨⟨rfl,rfl,rfl⟩,trivial⟩,fun ext=>TL.load hF rfl ((hl.up (by intro s hs; simp [hs])).atA (i:=i) hil 2 _ rfl) rfl TL.fin⟩,trivial⟩ ?_
    refine DH.done [(20,_),(19,_),(18,_),(17,_),(16,_),(15,_),(14,_)] [_] (by kernel_rfl) (by kernel_rfl) (by kernel_rfl) (by kernel_rfl) rfl rfl ?_
    refine TL.assign hF rfl rfl ?_
    refine TL.nil ?_
    refine TQ.then_n ?_
    refine T.ret ?_
    refine TQ.then_r ?_
    refine TQ.retCT (scC fa fl.length fc ca cells.length cc na l.length nc) (hs++η) rfl rfl rfl rfl (own_list (i:=0) (cs:=(scC fa fl.length fc ca cells.length cc na l.length nc)) rfl) (List.Sublist.cons _ (List.Sublist.cons _ (List.sublist_cons_self _ _))) ?_
    refine ⟨l,na,nc,hs,?_,?_,hl,rfl⟩
    · unfold runS; rw [hfnd]
    · unfold runS; rw [hfnd]
  · refine T.skip ?_
    refine TQ.then_n ?_
    refine T.seq ?_
    refine T.region ?_
    have hfnd:findN (nds l) k=none:=by
      rcases hz with ⟨i,_,rfl,_⟩ | ⟨_,h⟩
      · exact absurd ht13 (by show ¬ ¬ ((i:Int)≥0); omega)
      · exact h
    refine TL.buildSlice hF rfl (cs:=#[]) (e:=56) (fun w=>by kernel_rfl) rfl (fun b21=>?_)
    refine TL.assign hF rfl rfl ?_
    refine TL.nil ?_
    refine TQ.then_n ?_
    refine T.seq ?_
    have hkl:k.1.toNat<fl.length:=by have:=hk.2.1; have:=hk.1; rw [List.length_map] at *; omega
    refine T.drawH 17 mixed ?_
    refine DH.read (i:=0) [(2,_,none)] rfl rfl rfl rfl ⟨⟨rfl,by kernel_rfl⟩,trivial⟩ (fun ext=>TL.loadA hF (scC fa fl.length fc ca cells.length cc na l.length nc) rfl rfl (own_listM (b:=b2) (cs:=(scC fa fl.length fc ca cells.length cc na l.length nc)) (e:=116) (fz:=(0,0)) (List.mem_cons.2 (.inr (List.mem_cons.2 (.inr (List.mem_cons.2 (.inr (List.mem_cons.2 (.inl rfl))))))))) rfl TL.fin) ?_
    refine DH.pure (i:=1) [(2,_,none)] rfl rfl rfl rfl ⟨⟨rfl,by kernel_rfl⟩,trivial⟩ (fun _ ext=>TL.fieldAddr hF rfl rfl TL.fin) ?_
    refine DH.read (i:=2) [(24,_,some 1)] rfl rfl rfl rfl ⟨⟨rfl,rfl,rfl⟩,trivial⟩ (fun ext=>TL.load hF rfl (own_mem (b:=b2) (cs:=((scC fa fl.length fc ca cells.length cc na l.length nc)).toArray) (e:=116) (fz:=(0,0)) (List.mem_cons.2 (.inr (List.mem_cons.2 (.inr (List.mem_cons.2 (.inr (List.mem_cons.2 (.inl rfl)))))))) rfl) rfl TL.fin) ?_
    refine DH.pure (i:=3) [(3,_,none)] rfl rfl rfl rfl ⟨⟨rfl,by kernel_rfl⟩,trivial⟩ (fun _ ext=>TL.fieldAddr hF rfl rfl TL.fin) ?_
    refine DH.read (i:=4) [(26,_,some 3)] rfl rfl rfl rfl ⟨⟨rfl,rfl,rfl⟩,trivial⟩ (fun ext=>TL.load hF rfl (own_mem (b:=b3) (cs:=(kC k).toArray) (e:=25) (fz:=(0,0)) (List.mem_cons.2 (.inr (List.mem_cons.2 (.inr (List.mem_cons.2 (.inl rfl)))))) rfl) rfl TL.fin) ?_
    refine DH.pure (i:=5) [(25,_,some 2),(27,_,some 4)] rfl rfl rfl rfl ⟨⟨rfl,rfl,rfl⟩,⟨rfl,rfl,rfl⟩,trivial⟩ (fun _ ext=>TL.indexAddr hF rfl rfl (hfs.ad hkl) (by have:=hk.1; omega) (by have:=hk.1; omega) rfl TL.fin) ?_
    refine DH.read (i:=6) [(28,_,some 5)] rfl rfl rfl rfl ⟨⟨rfl,rfl,rfl⟩,trivial⟩ (fun ext=>TL.loadA hF (teC fl[k.1.toNat]) rfl rfl (hfs.ro.atA (i:=k.1.toNat) hkl) rfl TL.fin) ?_
    refine DH.pure (i:=7) [(3,_,none)] rfl rfl rfl rfl ⟨⟨rfl,by kernel_rfl⟩,trivial⟩ (fun _ ext=>TL.fieldAddr hF rfl rfl TL.fin) ?_
    refine DH.read (i:=8) [(30,_,some 7)] rfl rfl rfl rfl ⟨⟨rfl,rfl,rfl⟩,trivial⟩ (fun ext=>TL.load hF rfl (own_mem (b:=b3) (cs:=(kC k).toArray) (e:=25) (fz:=(0,0)) (List.mem_cons.2 (.inr (List.mem_cons.2 (.inr (List.mem_cons.2 (.inl rfl)))))) rfl) rfl TL.fin) ?_
    refine DH.pure (i:=9) [(7,_,none)] rfl rfl rfl rfl ⟨⟨rfl,by kernel_rfl⟩,trivial⟩ (fun _ ext=>TL.move hF rfl rfl TL.fin) ?_
    refine DH.heavy 10 [(23,_,some 0),(29,_,some 6),(31,_,some 8),(32,_,some 9)] (by kernel_rfl) (by kernel_rfl) (by kernel_rfl) (by kernel_rfl) rfl rfl rfl rfl ⟨⟨rfl,rfl,rfl⟩,⟨rfl,rfl,rfl⟩,⟨rfl,rfl,rfl⟩,⟨rfl,rfl,rfl⟩,trivial⟩ (by kernel_rfl) (fun ext=>?_)
    have hrt:rightE fl.length fl[k.1.toNat].ex=true:=by
      have:=hsc.right k.1.toNat (by simpa using hkl)
      rw [fnAt hkl,List.length_map] at this; exact this
    have hsz:sizeE fl[k.1.toNat].ex≤40:=by
      have:=hsc.size k.1.toNat (by simpa using hkl)
      rw [fnAt hkl] at this; exact this
    have hfac:=ev_facts (f:=f) hsc (by omega) (arg:=k.2) hk.2.2.1 (by have:=hk.2.2.2; omega) (by have:=hk.2.2.2; omega) (e:=fl[k.1.toNat].ex) (by rw [List.length_map]; exact hrt) hg []
    refine TL.heap (η':=[(b21,Obj.cells #[] 56 (0,0))]::[(b4,Obj.cells ([.slice none 0 0,.slice none 0 0,.slice none 0 0]:List Value).toArray 116 (0,0))]::[(b3,Obj.cells (kC k).toArray 25 (0,0))]::[(b2,Obj.cells (scC fa fl.length fc ca cells.length cc na l.length nc).toArray 116 (0,0))]::(hs++η)) rfl ?_
    refine TL.hperm ([(b21,Obj.cells #[] 56 (0,0))]::(hs++([[(b4,Obj.cells ([.slice none 0 0,.slice none 0 0,.slice none 0 0]:List Value).toArray 116 (0,0))],[(b3,Obj.cells (kC k).toArray 25 (0,0))],[(b2,Obj.cells (scC fa fl.length fc ca cells.length cc na l.length nc).toArray 116 (0,0))]]++η))) (perm_cnt fun f=>by simp only [List.map_append,List.map_cons,List.map_nil,List.sum_append,List.sum_cons,List.sum_nil]; omega) ?_
    refine TL.call hF (hE fl[k.1.toNat] k.2 l na nc hs ([[(b4,Obj.cells ([.slice none 0 0,.slice none 0 0,.slice none 0 0]:List Value).toArray 116 (0,0))],[(b3,Obj.cells (kC k).toArray 25 (0,0))],[(b2,Obj.cells (scC fa fl.length fc ca cells.length cc na l.length nc).toArray 116 (0,0))]]++η) [] _ _ _ (hη.up (fun s hs=>List.mem_append_right _ hs)) (hfs.item _ (List.getElem_mem hkl)) hrt hk.2.2.1 (by have:=hk.2.2.2; omega) (by have:=hk.2.2.2; omega) hg hl osl_empty (by simp; omega)) rfl rfl ?_
    rintro _ _ ⟨l',na',nc',hs',a',c',dg',rfl,hnd,hl',hdg,rfl⟩
    refine TL.hperm (dg'::[(b4,Obj.cells ([.slice none 0 0,.slice none 0 0,.slice none 0 0]:List Value).toArray 116 (0,0))]::[(b3,Obj.cells (kC k).toArray 25 (0,0))]::[(b2,Obj.cells (scC fa fl.length fc ca cells.length cc na l.length nc).toArray 116 (0,0))]::(hs'++η)) (perm_cnt fun f=>by simp only [List.map_append,List.map_cons,List.map_nil,List.sum_append,List.sum_cons,List.sum_nil]; omega) ?_
    have hlen2:l'.length≤1608:=by rw [← nds_len,hnd]; exact good_len hsc hfac.1
    refine TL.finD ?_
    refine DH.pure (i:=11) [(33,_,some 10)] rfl rfl rfl rfl ⟨⟨rfl,rfl,rfl⟩,trivial⟩ (fun _ ext=>TL.move hF rfl rfl TL.fin) ?_
    refine DH.pure (i:=12) [(22,_,some 11)] rfl rfl rfl rfl ⟨⟨rfl,rfl,rfl⟩,trivial⟩ (fun _ ext=>TL.extract hF rfl rfl rfl TL.fin) ?_
    refine DH.pure (i:=13) [(22,_,some 11)] rfl rfl rfl rfl ⟨⟨rfl,rfl,rfl⟩,trivial⟩ (fun _ ext=>TL.extract hF rfl rfl rfl TL.fin) ?_
    refine DH.pure (i:=14) [(22,_,some 11)] rfl rfl rfl rfl ⟨⟨rfl,rfl,rfl⟩,trivial⟩ (fun _ ext=>TL.extract hF rfl rfl rfl TL.fin) ?_
    refine DH.k1 (by kernel_rfl) (by kernel_rfl) (by kernel_rfl) (by kernel_rfl) (HBK.mk (h:=15) [] [(2,_,none),(34,_,some 12)] rfl rfl rfl ⟨⟨rfl,by kernel_rfl⟩,⟨rfl,rfl,rfl⟩,trivial⟩ (by kernel_rfl) (fun ext=>?_))
    refine TL.storeAs hF (scC fa fl.length fc ca cells.length cc na' l'.length nc') (scC fa fl.length fc ca cells.length cc na' l'.length nc') 3 (cs:=(scC fa fl.length fc ca cells.length cc na l.length nc)) rfl rfl rfl rfl (by simp [Value.oneCell']) (Nat.le_refl 3) rfl ?_
    refine TL.finKN trivial ?_
    refine DH.pure (i:=16) [(35,_,some 13)] rfl rfl rfl rfl ⟨⟨rfl,rfl,rfl⟩,trivial⟩ (fun _ ext=>TL.assign hF rfl rfl TL.fin) ?_
    refine DH.done [(8,_),(36,_),(35,_),(34,_),(22,_),(33,_),(32,_),(31,_),(30,_),(29,_),(28,_),(27,_),(26,_),(25,_),(24,_),(23,_)] [_] (by kernel_rfl) (by kernel_rfl) (by kernel_rfl) (by kernel_rfl) rfl rfl ?_
    refine TL.assign hF rfl rfl ?_
    refine TL.nil ?_
    refine TQ.then_n ?_
    refine T.seq ?_
    refine T.drawH 9 mixed ?_
    refine DH.pure (i:=1) [(2,_,none)] rfl rfl rfl rfl ⟨⟨rfl,by kernel_rfl⟩,trivial⟩ (fun _ ext=>TL.fieldAddr hF rfl rfl TL.fin) ?_
    refine DH.read (i:=2) [(38,_,some 1)] rfl rfl rfl rfl ⟨⟨rfl,rfl,rfl⟩,trivial⟩ (fun ext=>TL.load hF rfl (own_mem (b:=b2) (cs:=(scC fa fl.length fc ca cells.length cc na' l'.length nc').toArray) (e:=116) (fz:=(0,0)) (by simp) rfl) rfl TL.fin) ?_
    refine DH.read (i:=4) [(3,_,none)] rfl rfl rfl rfl ⟨⟨rfl,by kernel_rfl⟩,trivial⟩ (fun ext=>TL.loadA hF (kC k) rfl rfl (own_listM (b:=b3) (cs:=kC k) (e:=25) (fz:=(0,0)) (by simp)) rfl TL.fin) ?_
    refine DH.pure (i:=5) [(8,_,none)] rfl rfl rfl rfl ⟨⟨rfl,by kernel_rfl⟩,trivial⟩ (fun _ ext=>TL.move hF rfl rfl TL.fin) ?_
    refine DH.pure (i:=6) [(7,_,none)] rfl rfl rfl rfl ⟨⟨rfl,by kernel_rfl⟩,trivial⟩ (fun _ ext=>TL.move hF rfl rfl TL.fin) ?_
    refine DH.pure (i:=7) [(41,_,some 4),(42,_,some 5),(43,_,some 6)] rfl rfl rfl rfl ⟨⟨rfl,rfl,rfl⟩,⟨rfl,rfl,rfl⟩,⟨rfl,rfl,rfl⟩,trivial⟩ (fun _ ext=>TL.build hF rfl (r:=.agg ([.int .i64 k.1,.int .i64 k.2,.int .i64 (evalS (runS (fl.map TE.ex) cells f) cells k.2 fl[k.1.toNat].ex (nds l) []).2.1,.slice a' (evalS (runS (fl.map TE.ex) cells f) cells k.2 fl[k.1.toNat].ex (nds l) []).2.2.length c']:List Value).toArray) (fun w=>by kernel_rfl) rfl TL.fin) ?_
    refine DH.k2 (by kernel_rfl) (by kernel_rfl) (by kernel_rfl) (by kernel_rfl) (HBK.mk (h:=0) [2,4] [] rfl rfl rfl trivial (by kernel_rfl) (fun ext=>?_)) (HBK.mk (h:=8) [2] [(44,_,some 7)] rfl rfl rfl ⟨⟨rfl,rfl,rfl⟩,trivial⟩ (by kernel_rfl) (fun ext=>?_))
    · refine TL.buildSlice hF rfl (cs:=#[]) (e:=54) (fun w=>by kernel_rfl) rfl (fun b37=>?_)
      refine TL.finK ⟨⟨_,rfl,_,_,[(38,_,some 1)],rfl,rfl,⟨⟨rfl,rfl,rfl⟩,trivial⟩,fun ext=>TL.load hF rfl (own_mem (b:=b2) (cs:=(scC fa fl.length fc ca cells.length cc na' l'.length nc').toArray) (e:=116) (fz:=(0,0)) (by simp) rfl) rfl TL.fin⟩,⟨_,rfl,_,_,[(3,_,none)],rfl,rfl,⟨⟨rfl,by kernel_rfl⟩,trivial⟩,fun ext=>TL.loadA hF (kC k) rfl rfl (own_listM (b:=b3) (cs:=kC k) (e:=25) (fz:=(0,0)) (by simp)) rfl TL.fin⟩,trivial⟩ ?_
      refine DH.k2 (by kernel_rfl) (by kernel_rfl) (by kernel_rfl) (by kernel_rfl) (HBK.mk (h:=3) [4] [(37,_,some 0),(39,_,some 2)] rfl rfl rfl ⟨⟨rfl,rfl,rfl⟩,⟨rfl,rfl,rfl⟩,trivial⟩ (by kernel_rfl) (fun ext=>?_)) (HBK.mk (h:=8) [2] [(44,_,some 7)] rfl rfl rfl ⟨⟨rfl,rfl,rfl⟩,trivial⟩ (by kernel_rfl) (fun ext=>?_))
      · first
          | refine TL.append hF 0 rfl rfl rfl (osl_empty (b:=b37)) (hl'.up (by intro s hs; simp [hs])).row.src rfl (by rw [flat4]; rfl) (fun v hv=>by obtain ⟨x,_,hx⟩:=List.mem_flatMap.1 hv; exact nhC1 x v hx) (by omega) (by omega) rfl (fun pa pc pg ph=>?_)
          | refine TL.append hF 1 rfl rfl rfl (osl_empty (b:=b37)) (hl'.up (by intro s hs; simp [hs])).row.src rfl (by rw [flat4]; rfl) (fun v hv=>by obtain ⟨x,_,hx⟩:=List.mem_flatMap.1 hv; exact nhC1 x v hx) (by omega) (by omega) rfl (fun pa pc pg ph=>?_)
        rw [List.nil_append] at ph
        refine TL.finK ⟨⟨_,rfl,_,_,[(3,_,none)],rfl,rfl,⟨⟨rfl,by kernel_rfl⟩,trivial⟩,fun ext=>TL.loadA hF (kC k) rfl rfl (own_listM (b:=b3) (cs:=kC k) (e:=25) (fz:=(0,0)) (by simp)) rfl TL.fin⟩,trivial⟩ ?_
        refine DH.heavy 8 [(44,_,some 7)] (by kernel_rfl) (by kernel_rfl) (by kernel_rfl) (by kernel_rfl) rfl rfl rfl rfl ⟨⟨rfl,rfl,rfl⟩,trivial⟩ (by kernel_rfl) (fun ext=>?_)
        refine TL.buildSlice hF rfl (cs:=([.int .i64 k.1,.int .i64 k.2,.int .i64 (evalS (runS (fl.map TE.ex) cells f) cells k.2 fl[k.1.toNat].ex (nds l) []).2.1,.slice a' (evalS (runS (fl.map TE.ex) cells f) cells k.2 fl[k.1.toNat].ex (nds l) []).2.2.length c']:List Value).toArray) (e:=54) (fun w=>by kernel_rfl) rfl (fun bq=>?_)
        refine TL.finD ?_
        refine DH.done [(45,_),(40,_),(37,_),(44,_),(43,_),(42,_),(41,_),(39,_),(38,_)] [_,_,_] (by kernel_rfl) (by kernel_rfl) (by kernel_rfl) (by kernel_rfl) rfl rfl ?_
        first
          | refine TL.append hF 1 rfl rfl rfl ph (row_own (cs:=nhC (⟨⟨k,(evalS (runS (fl.map TE.ex) cells f) cells k.2 fl[k.1.toNat].ex (nds l) []).2.1,(evalS (runS (fl.map TE.ex) cells f) cells k.2 fl[k.1.toNat].ex (nds l) []).2.2⟩,a',c'⟩:NH)) (e:=54) (b:=bq) (by simp [nhC])).src rfl rfl (nhC1 _) (by omega) (by omega) rfl (fun qa qc qg qh=>?_)
          | refine TL.append hF 0 rfl rfl rfl ph (row_own (cs:=nhC (⟨⟨k,(evalS (runS (fl.map TE.ex) cells f) cells k.2 fl[k.1.toNat].ex (nds l) []).2.1,(evalS (runS (fl.map TE.ex) cells f) cells k.2 fl[k.1.toNat].ex (nds l) []).2.2⟩,a',c'⟩:NH)) (e:=54) (b:=bq) (by simp [nhC])).src rfl rfl (nhC1 _) (by omega) (by omega) rfl (fun qa qc qg qh=>?_)
        refine TL.fieldAddr hF rfl rfl ?_
        refine TL.storeI hF 5 rfl rfl rfl rfl (show (2:Nat)<3 by decide) ?_
        refine TL.nil ?_
        refine TQ.then_n ?_
        refine T.seq ?_
        refine T.region ?_
        refine TL.loadA hF (scC fa fl.length fc ca cells.length cc qa (0+l'.length+1) qc) rfl rfl (own_list (i:=5) (cs:=(scC fa fl.length fc ca cells.length cc qa (0+l'.length+1) qc)) rfl) rfl ?_
        refine TL.move hF rfl rfl ?_
        refine TL.storeAs hF (scC fa fl.length fc ca cells.length cc qa (0+l'.length+1) qc) (scC fa fl.length fc ca cells.length cc qa (0+l'.length+1) qc) 3 (cs:=[.slice none 0 0,.slice none 0 0,.slice none 0 0]) rfl rfl rfl rfl (by simp [Value.oneCell']) (Nat.le_refl 3) rfl ?_
        refine TL.assign hF rfl rfl ?_
        refine TL.nil ?_
        refine TQ.then_n ?_
        refine T.ret ?_
        have hq2:(0+l'.length+1)=(l'++[(⟨⟨k,(evalS (runS (fl.map TE.ex) cells f) cells k.2 fl[k.1.toNat].ex (nds l) []).2.1,(evalS (runS (fl.map TE.ex) cells f) cells k.2 fl[k.1.toNat].ex (nds l) []).2.2⟩,a',c'⟩:NH)]).length:=by simp
        have hcells:(l'++[(⟨⟨k,(evalS (runS (fl.map TE.ex) cells f) cells k.2 fl[k.1.toNat].ex (nds l) []).2.1,(evalS (runS (fl.map TE.ex) cells f) cells k.2 fl[k.1.toNat].ex (nds l) []).2.2⟩,a',c'⟩:NH)]).flatMap nhC=l'.flatMap nhC++nhC (⟨⟨k,(evalS (runS (fl.map TE.ex) cells f) cells k.2 fl[k.1.toNat].ex (nds l) []).2.1,(evalS (runS (fl.map TE.ex) cells f) cells k.2 fl[k.1.toNat].ex (nds l) []).2.2⟩,a',c'⟩:NH):=by simp
        refine TQ.retCT (scC fa fl.length fc ca cells.length cc qa (0+l'.length+1) qc) (qg::dg'::(hs'++η)) rfl rfl rfl rfl (own_list (i:=3) (cs:=(scC fa fl.length fc ca cells.length cc qa (0+l'.length+1) qc)) rfl) (by first | exact (List.Sublist.cons _ (List.Sublist.cons_cons _ (List.Sublist.cons_cons _ (List.Sublist.cons _ (List.Sublist.cons _ (List.sublist_cons_self _ _)))))) | exact (List.Sublist.cons_cons _ (List.Sublist.cons _ (List.Sublist.cons_cons _ (List.Sublist.cons _ (List.Sublist.cons _ (List.sublist_cons_self _ _))))))) ?_
        have hrun:runS (fl.map TE.ex) cells (f+1) (nds l) k=((evalS (runS (fl.map TE.ex) cells f) cells k.2 fl[k.1.toNat].ex (nds l) []).1++[⟨k,(evalS (runS (fl.map TE.ex) cells f) cells k.2 fl[k.1.toNat].ex (nds l) []).2.1,(evalS (runS (fl.map TE.ex) cells f) cells k.2 fl[k.1.toNat].ex (nds l) []).2.2⟩],(evalS (runS (fl.map TE.ex) cells f) cells k.2 fl[k.1.toNat].ex (nds l) []).2.1):=by
          unfold runS; rw [hfnd]; rw [fnAt hkl]
        rw [hrun]
        refine ⟨l'++[(⟨⟨k,(evalS (runS (fl.map TE.ex) cells f) cells k.2 fl[k.1.toNat].ex (nds l) []).2.1,(evalS (runS (fl.map TE.ex) cells f) cells k.2 fl[k.1.toNat].ex (nds l) []).2.2⟩,a',c'⟩:NH)],qa,qc,qg::dg'::hs',by rw [← hq2]; rfl,by unfold nds at hnd ⊢; rw [List.map_append,hnd]; rfl,⟨?_,fun x hx=>?_⟩,rfl⟩
        · rw [hcells]; exact qh.row (by simp)
        · rcases List.mem_append.1 hx with hx | hx
          · have h9:=hl'.item x hx
            exact ⟨h9.row.up (by intro s hs; simp [hs]),h9.cap,h9.len⟩
          · rw [List.mem_singleton.1 hx]
            refine ⟨hdg.row (by simp),osl_cap hdg,?_⟩
            have:=hfac.2.2
            simp only [List.length_nil,Nat.zero_add] at this
            show (evalS (runS (fl.map TE.ex) cells f) cells k.2 fl[k.1.toNat].ex (nds l) []).2.2.length<_
            omega
      · refine TL.buildSlice hF rfl (cs:=([.int .i64 k.1,.int .i64 k.2,.int .i64 (evalS (runS (fl.map TE.ex) cells f) cells k.2 fl[k.1.toNat].ex (nds l) []).2.1,.slice a' (evalS (runS (fl.map TE.ex) cells f) cells k.2 fl[k.1.toNat].ex (nds l) []).2.2.length c']:List Value).toArray) (e:=54) (fun w=>by kernel_rfl) rfl (fun bq=>?_)
        refine TL.finK ⟨⟨_,rfl,_,_,[(38,_,some 1)],rfl,rfl,⟨⟨rfl,rfl,rfl⟩,trivial⟩,fun ext=>TL.load hF rfl (own_mem (b:=b2) (cs:=(scC fa fl.length fc ca cells.length cc na' l'.length nc').toArray) (e:=116) (fz:=(0,0)) (by simp) rfl) rfl TL.fin⟩,trivial⟩ ?_
        refine DH.heavy 3 [(37,_,some 0),(39,_,some 2)] (by kernel_rfl) (by kernel_rfl) (by kernel_rfl) (by kernel_rfl) rfl rfl rfl rfl ⟨⟨rfl,rfl,rfl⟩,⟨rfl,rfl,rfl⟩,trivial⟩ (by kernel_rfl) (fun ext=>?_)
        first
          | refine TL.append hF 0 rfl rfl rfl (osl_empty (b:=b37)) (hl'.up (by intro s hs; simp [hs])).row.src rfl (by rw [flat4]; rfl) (fun v hv=>by obtain ⟨x,_,hx⟩:=List.mem_flatMap.1 hv; exact nhC1 x v hx) (by omega) (by omega) rfl (fun pa pc pg ph=>?_)
          | refine TL.append hF 1 rfl rfl rfl (osl_empty (b:=b37)) (hl'.up (by intro s hs; simp [hs])).row.src rfl (by rw [flat4]; rfl) (fun v hv=>by obtain ⟨x,_,hx⟩:=List.mem_flatMap.1 hv; exact nhC1 x v hx) (by omega) (by omega) rfl (fun pa pc pg ph=>?_)
        rw [List.nil_append] at ph
        refine TL.finD ?_
        refine DH.done [(40,_),(45,_),(37,_),(44,_),(43,_),(42,_),(41,_),(39,_),(38,_)] [_,_,_] (by kernel_rfl) (by kernel_rfl) (by kernel_rfl) (by kernel_rfl) rfl rfl ?_
        first
          | refine TL.append hF 1 rfl rfl rfl ph (row_own (cs:=nhC (⟨⟨k,(evalS (runS (fl.map TE.ex) cells f) cells k.2 fl[k.1.toNat].ex (nds l) []).2.1,(evalS (runS (fl.map TE.ex) cells f) cells k.2 fl[k.1.toNat].ex (nds l) []).2.2⟩,a',c'⟩:NH)) (e:=54) (b:=bq) (by simp [nhC])).src rfl rfl (nhC1 _) (by omega) (by omega) rfl (fun qa qc qg qh=>?_)
          | refine TL.append hF 0 rfl rfl rfl ph (row_own (cs:=nhC (⟨⟨k,(evalS (runS (fl.map TE.ex) cells f) cells k.2 fl[k.1.toNat].ex (nds l) []).2.1,(evalS (runS (fl.map TE.ex) cells f) cells k.2 fl[k.1.toNat].ex (nds l) []).2.2⟩,a',c'⟩:NH)) (e:=54) (b:=bq) (by simp [nhC])).src rfl rfl (nhC1 _) (by omega) (by omega) rfl (fun qa qc qg qh=>?_)
        refine TL.fieldAddr hF rfl rfl ?_
        refine TL.storeI hF 5 rfl rfl rfl rfl (show (2:Nat)<3 by decide) ?_
        refine TL.nil ?_
        refine TQ.then_n ?_
        refine T.seq ?_
        refine T.region ?_
        refine TL.loadA hF (scC fa fl.length fc ca cells.length cc qa (0+l'.length+1) qc) rfl rfl (own_list (i:=5) (cs:=(scC fa fl.length fc ca cells.length cc qa (0+l'.length+1) qc)) rfl) rfl ?_
        refine TL.move hF rfl rfl ?_
        refine TL.storeAs hF (scC fa fl.length fc ca cells.length cc qa (0+l'.length+1) qc) (scC fa fl.length fc ca cells.length cc qa (0+l'.length+1) qc) 3 (cs:=[.slice none 0 0,.slice none 0 0,.slice none 0 0]) rfl rfl rfl rfl (by simp [Value.oneCell']) (Nat.le_refl 3) rfl ?_
        refine TL.assign hF rfl rfl ?_
        refine TL.nil ?_
        refine TQ.then_n ?_
        refine T.ret ?_
        have hq2:(0+l'.length+1)=(l'++[(⟨⟨k,(evalS (runS (fl.map TE.ex) cells f) cells k.2 fl[k.1.toNat].ex (nds l) []).2.1,(evalS (runS (fl.map TE.ex) cells f) cells k.2 fl[k.1.toNat].ex (nds l) []).2.2⟩,a',c'⟩:NH)]).length:=by simp
        have hcells:(l'++[(⟨⟨k,(evalS (runS (fl.map TE.ex) cells f) cells k.2 fl[k.1.toNat].ex (nds l) []).2.1,(evalS (runS (fl.map TE.ex) cells f) cells k.2 fl[k.1.toNat].ex (nds l) []).2.2⟩,a',c'⟩:NH)]).flatMap nhC=l'.flatMap nhC++nhC (⟨⟨k,(evalS (runS (fl.map TE.ex) cells f) cells k.2 fl[k.1.toNat].ex (nds l) []).2.1,(evalS (runS (fl.map TE.ex) cells f) cells k.2 fl[k.1.toNat].ex (nds l) []).2.2⟩,a',c'⟩:NH):=by simp
        refine TQ.retCT (scC fa fl.length fc ca cells.length cc qa (0+l'.length+1) qc) (qg::dg'::(hs'++η)) rfl rfl rfl rfl (own_list (i:=3) (cs:=(scC fa fl.length fc ca cells.length cc qa (0+l'.length+1) qc)) rfl) (by first | exact (List.Sublist.cons _ (List.Sublist.cons_cons _ (List.Sublist.cons_cons _ (List.Sublist.cons _ (List.Sublist.cons _ (List.sublist_cons_self _ _)))))) | exact (List.Sublist.cons_cons _ (List.Sublist.cons _ (List.Sublist.cons_cons _ (List.Sublist.cons _ (List.Sublist.cons _ (List.sublist_cons_self _ _))))))) ?_
        have hrun:runS (fl.map TE.ex) cells (f+1) (nds l) k=((evalS (runS (fl.map TE.ex) cells f) cells k.2 fl[k.1.toNat].ex (nds l) []).1++[⟨k,(evalS (runS (fl.map TE.ex) cells f) cells k.2 fl[k.1.toNat].ex (nds l) []).2.1,(evalS (runS (fl.map TE.ex) cells f) cells k.2 fl[k.1.toNat].ex (nds l) []).2.2⟩],(evalS (runS (fl.map TE.ex) cells f) cells k.2 fl[k.1.toNat].ex (nds l) []).2.1):=by
          unfold runS; rw [hfnd]; rw [fnAt hkl]
        rw [hrun]
        refine ⟨l'++[(⟨⟨k,(evalS (runS (fl.map TE.ex) cells f) cells k.2 fl[k.1.toNat].ex (nds l) []).2.1,(evalS (runS (fl.map TE.ex) cells f) cells k.2 fl[k.1.toNat].ex (nds l) []).2.2⟩,a',c'⟩:NH)],qa,qc,qg::dg'::hs',by rw [← hq2]; rfl,by unfold nds at hnd ⊢; rw [List.map_append,hnd]; rfl,⟨?_,fun x hx=>?_⟩,rfl⟩
        · rw [hcells]; exact qh.row (by simp)
        · rcases List.mem_append.1 hx with hx | hx
          · have h9:=hl'.item x hx
            exact ⟨h9.row.up (by intro s hs; simp [hs]),h9.cap,h9.len⟩
          · rw [List.mem_singleton.1 hx]
            refine ⟨hdg.row (by simp),osl_cap hdg,?_⟩
            have:=hfac.2.2
            simp only [List.length_nil,Nat.zero_add] at this
            show (evalS (runS (fl.map TE.ex) cells f) cells k.2 fl[k.1.toNat].ex (nds l) []).2.2.length<_
            omega
    · refine TL.buildSlice hF rfl (cs:=([.int .i64 k.1,.int .i64 k.2,.int .i64 (evalS (runS (fl.map TE.ex) cells f) cells k.2 fl[k.1.toNat].ex (nds l) []).2.1,.slice a' (evalS (runS (fl.map TE.ex) cells f) cells k.2 fl[k.1.toNat].ex (nds l) []).2.2.length c']:List Value).toArray) (e:=54) (fun w=>by kernel_rfl) rfl (fun bq=>?_)
      refine TL.finK ⟨⟨_,rfl,_,_,[(38,_,some 1)],rfl,rfl,⟨⟨rfl,rfl,rfl⟩,trivial⟩,fun ext=>TL.load hF rfl (own_mem (b:=b2) (cs:=(scC fa fl.length fc ca cells.length cc na' l'.length nc').toArray) (e:=116) (fz:=(0,0)) (by simp) rfl) rfl TL.fin⟩,trivial⟩ ?_
      refine DH.k1 (by kernel_rfl) (by kernel_rfl) (by kernel_rfl) (by kernel_rfl) (HBK.mk (h:=0) [2] [] rfl rfl rfl trivial (by kernel_rfl) (fun ext=>?_))
      refine TL.buildSlice hF rfl (cs:=#[]) (e:=54) (fun w=>by kernel_rfl) rfl (fun b37=>?_)
      refine TL.finK ⟨⟨_,rfl,_,_,[(38,_,some 1)],rfl,rfl,⟨⟨rfl,rfl,rfl⟩,trivial⟩,fun ext=>TL.load hF rfl (own_mem (b:=b2) (cs:=(scC fa fl.length fc ca cells.length cc na' l'.length nc').toArray) (e:=116) (fz:=(0,0)) (by simp) rfl) rfl TL.fin⟩,trivial⟩ ?_
      refine DH.heavy 3 [(37,_,some 0),(39,_,some 2)] (by kernel_rfl) (by kernel_rfl) (by kernel_rfl) (by kernel_rfl) rfl rfl rfl rfl ⟨⟨rfl,rfl,rfl⟩,⟨rfl,rfl,rfl⟩,trivial⟩ (by kernel_rfl) (fun ext=>?_)
      first
        | refine TL.append hF 0 rfl rfl rfl (osl_empty (b:=b37)) (hl'.up (by intro s hs; simp [hs])).row.src rfl (by rw [flat4]; rfl) (fun v hv=>by obtain ⟨x,_,hx⟩:=List.mem_flatMap.1 hv; exact nhC1 x v hx) (by omega) (by omega) rfl (fun pa pc pg ph=>?_)
        | refine TL.append hF 1 rfl rfl rfl (osl_empty (b:=b37)) (hl'.up (by intro s hs; simp [hs])).row.src rfl (by rw [flat4]; rfl) (fun v hv=>by obtain ⟨x,_,hx⟩:=List.mem_flatMap.1 hv; exact nhC1 x v hx) (by omega) (by omega) rfl (fun pa pc pg ph=>?_)
      rw [List.nil_append] at ph
      refine TL.finD ?_
      refine DH.done [(40,_),(37,_),(45,_),(44,_),(43,_),(42,_),(41,_),(39,_),(38,_)] [_,_,_] (by kernel_rfl) (by kernel_rfl) (by kernel_rfl) (by kernel_rfl) rfl rfl ?_
      first
        | refine TL.append hF 1 rfl rfl rfl ph (row_own (cs:=nhC (⟨⟨k,(evalS (runS (fl.map TE.ex) cells f) cells k.2 fl[k.1.toNat].ex (nds l) []).2.1,(evalS (runS (fl.map TE.ex) cells f) cells k.2 fl[k.1.toNat].ex (nds l) []).2.2⟩,a',c'⟩:NH)) (e:=54) (b:=bq) (by simp [nhC])).src rfl rfl (nhC1 _) (by omega) (by omega) rfl (fun qa qc qg qh=>?_)
        | refine TL.append hF 0 rfl rfl rfl ph (row_own (cs:=nhC (⟨⟨k,(evalS (runS (fl.map TE.ex) cells f) cells k.2 fl[k.1.toNat].ex (nds l) []).2.1,(evalS (runS (fl.map TE.ex) cells f) cells k.2 fl[k.1.toNat].ex (nds l) []).2.2⟩,a',c'⟩:NH)) (e:=54) (b:=bq) (by simp [nhC])).src rfl rfl (nhC1 _) (by omega) (by omega) rfl (fun qa qc qg qh=>?_)
      refine TL.fieldAddr hF rfl rfl ?_
      refine TL.storeI hF 5 rfl rfl rfl rfl (show (2:Nat)<3 by decide) ?_
      refine TL.nil ?_
      refine TQ.then_n ?_
      refine T.seq ?_
      refine T.region ?_
      refine TL.loadA hF (scC fa fl.length fc ca cells.length cc qa (0+l'.length+1) qc) rfl rfl (own_list (i:=5) (cs:=(scC fa fl.length fc ca cells.length cc qa (0+l'.length+1) qc)) rfl) rfl ?_
      refine TL.move hF rfl rfl ?_
      refine TL.storeAs hF (scC fa fl.length fc ca cells.length cc qa (0+l'.length+1) qc) (scC fa fl.length fc ca cells.length cc qa (0+l'.length+1) qc) 3 (cs:=[.slice none 0 0,.slice none 0 0,.slice none 0 0]) rfl rfl rfl rfl (by simp [Value.oneCell']) (Nat.le_refl 3) rfl ?_
      refine TL.assign hF rfl rfl ?_
      refine TL.nil ?_
      refine TQ.then_n ?_
      refine T.ret ?_
      have hq2:(0+l'.length+1)=(l'++[(⟨⟨k,(evalS (runS (fl.map TE.ex) cells f) cells k.2 fl[k.1.toNat].ex (nds l) []).2.1,(evalS (runS (fl.map TE.ex) cells f) cells k.2 fl[k.1.toNat].ex (nds l) []).2.2⟩,a',c'⟩:NH)]).length:=by simp
      have hcells:(l'++[(⟨⟨k,(evalS (runS (fl.map TE.ex) cells f) cells k.2 fl[k.1.toNat].ex (nds l) []).2.1,(evalS (runS (fl.map TE.ex) cells f) cells k.2 fl[k.1.toNat].ex (nds l) []).2.2⟩,a',c'⟩:NH)]).flatMap nhC=l'.flatMap nhC++nhC (⟨⟨k,(evalS (runS (fl.map TE.ex) cells f) cells k.2 fl[k.1.toNat].ex (nds l) []).2.1,(evalS (runS (fl.map TE.ex) cells f) cells k.2 fl[k.1.toNat].ex (nds l) []).2.2⟩,a',c'⟩:NH):=by simp
      refine TQ.retCT (scC fa fl.length fc ca cells.length cc qa (0+l'.length+1) qc) (qg::dg'::(hs'++η)) rfl rfl rfl rfl (own_list (i:=3) (cs:=(scC fa fl.length fc ca cells.length cc qa (0+l'.length+1) qc)) rfl) (by first | exact (List.Sublist.cons _ (List.Sublist.cons_cons _ (List.Sublist.cons_cons _ (List.Sublist.cons _ (List.Sublist.cons _ (List.sublist_cons_self _ _)))))) | exact (List.Sublist.cons_cons _ (List.Sublist.cons _ (List.Sublist.cons_cons _ (List.Sublist.cons _ (List.Sublist.cons _ (List.sublist_cons_self _ _))))))) ?_
      have hrun:runS (fl.map TE.ex) cells (f+1) (nds l) k=((evalS (runS (fl.map TE.ex) cells f) cells k.2 fl[k.1.toNat].ex (nds l) []).1++[⟨k,(evalS (runS (fl.map TE.ex) cells f) cells k.2 fl[k.1.toNat].ex (nds l) []).2.1,(evalS (runS (fl.map TE.ex) cells f) cells k.2 fl[k.1.toNat].ex (nds l) []).2.2⟩],(evalS (runS (fl.map TE.ex) cells f) cells k.2 fl[k.1.toNat].ex (nds l) []).2.1):=by
        unfold runS; rw [hfnd]; rw [fnAt hkl]
      rw [hrun]
      refine ⟨l'++[(⟨⟨k,(evalS (runS (fl.map TE.ex) cells f) cells k.2 fl[k.1.toNat].ex (nds l) []).2.1,(evalS (runS (fl.map TE.ex) cells f) cells k.2 fl[k.1.toNat].ex (nds l) []).2.2⟩,a',c'⟩:NH)],qa,qc,qg::dg'::hs',by rw [← hq2]; rfl,by unfold nds at hnd ⊢; rw [List.map_append,hnd]; rfl,⟨?_,fun x hx=>?_⟩,rfl⟩
      · rw [hcells]; exact qh.row (by simp)
      · rcases List.mem_append.1 hx with hx | hx
        · have h9:=hl'.item x hx
          exact ⟨h9.row.up (by intro s hs; simp [hs]),h9.cap,h9.len⟩
        · rw [List.mem_singleton.1 hx]
          refine ⟨hdg.row (by simp),osl_cap hdg,?_⟩
          have:=hfac.2.2
          simp only [List.length_nil,Nat.zero_add] at this
          show (evalS (runS (fl.map TE.ex) cells f) cells k.2 fl[k.1.toNat].ex (nds l) []).2.2.length<_
          omega
end Go.Proofs.YtdiacobmhkmljaaGreatDoor
/- The reference: expressions, part by part; all calls. -/
namespace Go.Proofs.YtdiacobmhkmljaaGreatDoor
open Go.Sl
variable {S:Nat→Prop} {w0:World} {η:Heap}
section
variable (C:List Nd→Key→List Nd × Int) (cells:List Int) (arg:Int)
theorem partsR_snoc (op:Int) (l:List Ex) (x:Ex) (ns:List Nd) (ds:List Dp):partsR C cells arg op (l++[x]) ns ds=stepR C cells arg op (partsR C cells arg op l ns ds) x:=by
 unfold partsR; rw [List.foldl_append]; rfl
end
/-- What is known behind some parts. -/
theorem parts_facts {funs : List Ex} {cells : List Int} {f : Nat} (hs : Scn funs cells) (hf : f ≤ 201) {arg : Int} (h0 : 0 ≤ arg) (h1 : arg ≤ f) (h2 : arg ≤ 200) {e : TE} (hr : rightE funs.length e.ex = true) {ns : List Nd} (hg : Good funs cells ns) (ds : List Dp) : ∀ i, i ≤ e.l.length →
  Good funs cells (partsR (runS funs cells f) cells arg e.op ((e.l.map TE.ex).take i) ns ds).1∧(∀ w∈(partsR (runS funs cells f) cells arg e.op ((e.l.map TE.ex).take i) ns ds).2.1,Wd w)∧(partsR (runS funs cells f) cells arg e.op ((e.l.map TE.ex).take i) ns ds).2.2.length≤ds.length+szs (e.l.take i)∧(partsR (runS funs cells f) cells arg e.op ((e.l.map TE.ex).take i) ns ds).2.1.length=i
 | 0,_=>⟨hg,by simp [partsR],by simp [partsR],rfl⟩
 | i+1,hi=>by
  obtain ⟨a1,a2,a3,a4⟩:=parts_facts hs hf h0 h1 h2 hr hg ds i (by omega)
  have hil:i<e.l.length:=by omega
  have e1:(e.l.map TE.ex).take (i+1)=(e.l.map TE.ex).take i++[e.l[i].ex]:=by rw [List.take_succ_eq_append_getElem (by simpa using hil)]; simp
  rw [e1,partsR_snoc]
  generalize partsR (runS funs cells f) cells arg e.op ((e.l.map TE.ex).take i) ns ds=q at a1 a2 a3 a4 ⊢
  have hst:=szs_take hil
  unfold stepR
  split
  ·refine ⟨a1,fun w hw=>?_,by dsimp only; omega,by simp [a4]⟩
   rcases List.mem_append.1 hw with hw | hw
   ·exact a2 w hw
   ·rw [List.mem_singleton.1 hw]; unfold Wd; omega
  ·have hpi:=(right_iff.1 hr).2.2 e.l[i] (List.getElem_mem hil)
   obtain ⟨c1,c2,c3⟩:=ev_facts hs hf h0 h1 h2 hpi a1 q.2.2
   refine ⟨c1,fun w hw=>?_,by dsimp only; omega,by simp [a4]⟩
   rcases List.mem_append.1 hw with hw | hw
   ·exact a2 w hw
   ·rw [List.mem_singleton.1 hw]; exact c2
structure ER where
 i:Nat
 l:List NH
 na:Option Addr
 nc:Nat
 hs:Heap
 a:Option Addr
 c:Nat
 dg:Seg
 la:Option Addr
 lc:Nat
 lg:Seg
set_option maxHeartbeats 8000000 in
theorem eval_stepR {fa ca : Option Addr} {fl : List TE} {fc cc : Nat} {cells : List Int} (hsc : Scn (fl.map TE.ex) cells) {f : Nat} (hf : f ≤ 201) (hC : CallR S w0 fa ca fl fc cc cells f) (M : Nat) (IH : ∀ x : TE, sizeE x.ex < M → ∀ (arg : Int) (l : List NH) (na : Option Addr) (nc : Nat) (hs η : Heap) (ds : List Dp) (a : Option Addr) (c : Nat) (dg : Seg), Row S w0 η ca (ints cells) → Tr S w0 [] x → rightE fl.length x.ex = true → 0 ≤ arg → arg ≤ f → arg ≤ 200 → Good (fl.map TE.ex) cells (nds l) → NL S w0 hs na l → OSl 56 5 (.slice a ds.length c) ds.length (ds.flatMap dpC) dg → ds.length + sizeE x.ex ≤ 100 → Rt Tryz.prog 72 [scV fa ca fl fc cc cells na l.length nc, teV x, .int .i64 arg, .slice a ds.length c].toArray S w0 (dg :: (hs ++ η)) (fun v η' => ∃ (l' : List NH) (na' : Option Addr) (nc' : Nat) (hs' : Heap) (a' : Option Addr) (c' : Nat) (dg' : Seg),
   v = .tuple #[scV fa ca fl fc cc cells na' l'.length nc',.int .i64 (evalS (runS (fl.map TE.ex) cells f) cells arg x.ex (nds l) ds).2.1,.slice a' (evalS (runS (fl.map TE.ex) cells f) cells arg x.ex (nds l) ds).2.2.length c'] ∧
   nds l'=(evalS (runS (fl.map TE.ex) cells f) cells arg x.ex (nds l) ds).1∧NL S w0 hs' na' l'∧OSl 56 5 (.slice a' (evalS (runS (fl.map TE.ex) cells f) cells arg x.ex (nds l) ds).2.2.length c') (evalS (runS (fl.map TE.ex) cells f) cells arg x.ex (nds l) ds).2.2.length ((evalS (runS (fl.map TE.ex) cells f) cells arg x.ex (nds l) ds).2.2.flatMap dpC) dg'∧η'=dg'::(hs'++η))) (e:TE) (hM:sizeE e.ex≤M) (arg:Int) (l:List NH) (na:Option Addr) (nc:Nat) (hs η:Heap) (ds:List Dp) (a:Option Addr) (c:Nat) (dg:Seg) (hcl:Row S w0 η ca (ints cells)) (hT:Tr S w0 [] e) (hr:rightE fl.length e.ex=true) (h0:0≤arg) (harg:arg≤f) (h200:arg≤200) (hg:Good (fl.map TE.ex) cells (nds l)) (hl:NL S w0 hs na l) (hd:OSl 56 5 (.slice a ds.length c) ds.length (ds.flatMap dpC) dg) (hs100:ds.length+sizeE e.ex≤100) :
  Rt Tryz.prog 72 [scV fa ca fl fc cc cells na l.length nc,teV e,.int .i64 arg,.slice a ds.length c].toArray S w0 (dg::(hs++η)) (fun v η'=>∃ (l':List NH) (na':Option Addr) (nc':Nat) (hs':Heap) (a':Option Addr) (c':Nat) (dg':Seg),
   v = .tuple #[scV fa ca fl fc cc cells na' l'.length nc',.int .i64 (evalS (runS (fl.map TE.ex) cells f) cells arg e.ex (nds l) ds).2.1,.slice a' (evalS (runS (fl.map TE.ex) cells f) cells arg e.ex (nds l) ds).2.2.length c'] ∧
   nds l'=(evalS (runS (fl.map TE.ex) cells f) cells arg e.ex (nds l) ds).1∧NL S w0 hs' na' l'∧OSl 56 5 (.slice a' (evalS (runS (fl.map TE.ex) cells f) cells arg e.ex (nds l) ds).2.2.length c') (evalS (runS (fl.map TE.ex) cells f) cells arg e.ex (nds l) ds).2.2.length ((evalS (runS (fl.map TE.ex) cells f) cells arg e.ex (nds l) ds).2.2.flatMap dpC) dg'∧η'=dg'::(hs'++η)):=by
 have hlen:=hT.len
 have hrr:rightE (fl.map TE.ex).length e.ex=true:=by rw [List.length_map]; exact hr
 have hF:=open_wide
 refine Rt.of (fn:=Tryz.f72) Tryz.func72 rfl rfl ?_
 refine T.seq ?_
 refine T.region ?_
 refine TL.box hF rfl rfl (fun b4=>?_)
 refine TL.box hF rfl rfl (fun b5=>?_)
 refine TL.alloc hF rfl (fun b8=>?_)
 refine TL.assign hF rfl rfl ?_
 refine TL.assign hF rfl rfl ?_
 refine TL.nil ?_
 refine TQ.then_n ?_
 refine T.seq ?_
 refine T.region ?_
 refine TL.buildSlice hF rfl (cs:=#[]) (e:=3) (fun w=>by kernel_rfl) rfl (fun b17=>?_)
 refine TL.assign hF rfl rfl ?_
 refine TL.nil ?_
 refine TQ.then_n ?_
 refine T.seq ?_
 refine T.seq ?_
 refine T.region ?_
 refine TL.assign hF rfl rfl ?_
 refine TL.nil ?_
 refine TQ.then_n ?_
 refine T.block ?_
 refine T.heap (η':=[(b17,Obj.cells #[] 3 (0,0))]::[(b8,Obj.cells ([.slice none 0 0,.slice none 0 0,.slice none 0 0]:List Value).toArray 116 (0,0))]::[(b5,Obj.cells (teC e).toArray 87 (0,0))]::[(b4,Obj.cells (scC fa fl.length fc ca cells.length cc na l.length nc).toArray 116 (0,0))]::dg::(hs++η)) rfl ?_
 refine T.loop (ι:=ER) (fun s=>s.i≤e.l.length∧nds s.l=(partsR (runS (fl.map TE.ex) cells f) cells arg e.op ((e.l.map TE.ex).take s.i) (nds l) ds).1∧NL S w0 s.hs s.na s.l∧OSl 56 5 (.slice s.a (partsR (runS (fl.map TE.ex) cells f) cells arg e.op ((e.l.map TE.ex).take s.i) (nds l) ds).2.2.length s.c) (partsR (runS (fl.map TE.ex) cells f) cells arg e.op ((e.l.map TE.ex).take s.i) (nds l) ds).2.2.length ((partsR (runS (fl.map TE.ex) cells f) cells arg e.op ((e.l.map TE.ex).take s.i) (nds l) ds).2.2.flatMap dpC) s.dg∧OSl 3 1 (.slice s.la s.i s.lc) s.i (ints (partsR (runS (fl.map TE.ex) cells f) cells arg e.op ((e.l.map TE.ex).take s.i) (nds l) ds).2.1) s.lg) (fun s=>[(2,.int .i64 arg),(4,ptr b4),(5,ptr b5),(8,ptr b8),(9,.int .i64 0),(10,.slice none 0 0),(3,.slice s.a (partsR (runS (fl.map TE.ex) cells f) cells arg e.op ((e.l.map TE.ex).take s.i) (nds l) ds).2.2.length s.c),(11,.slice s.la s.i s.lc),(12,.int .i64 (s.i:Int))]) (fun s=>s.lg::[(b8,Obj.cells ([.slice none 0 0,.slice none 0 0,.slice none 0 0]:List Value).toArray 116 (0,0))]::[(b5,Obj.cells (teC e).toArray 87 (0,0))]::[(b4,Obj.cells (scC fa fl.length fc ca cells.length cc s.na s.l.length s.nc).toArray 116 (0,0))]::s.dg::(s.hs++η)) (fun s=>e.l.length - s.i) ⟨0,l,na,nc,hs,a,c,dg,some ⟨b17,0,none⟩,0,[(b17,Obj.cells #[] 3 (0,0))]⟩ ⟨Nat.zero_le _,rfl,hl,hd,osl_empty⟩ ⟨rfl,rfl,rfl,rfl,rfl,rfl,rfl,rfl,rfl,trivial⟩ rfl ?_
 rintro ⟨i,l',na',nc',hs',a',c',dg',la,lc,lg⟩ ⟨hi,hn',hl',hd',hw'⟩
 dsimp only at hi hn' hl' hd' hw'
 obtain ⟨hf1,hf2,hf3,hf4⟩:=parts_facts (f:=f) hsc hf h0 harg h200 (e:=e) hrr hg ds i hi
 have hszt:=szs_le e.l i
 have hszE:=size_eq e
 have hll:=len_le_szs e.l
 generalize hE:(partsR (runS (fl.map TE.ex) cells f) cells arg e.op ((e.l.map TE.ex).take i) (nds l) ds)=q at hn' hd' hw' hf1 hf2 hf3 hf4 ⊢
 refine T.seq ?_
 refine T.seq ?_
 refine T.region ?_
 refine TL.move hF rfl rfl ?_
 refine TL.fieldAddr hF rfl rfl ?_
 refine TL.load hF rfl (own_mem (b:=b5) (cs:=(teC e).toArray) (e:=87) (fz:=(0,0)) (List.mem_cons.2 (.inr (List.mem_cons.2 (.inr (List.mem_cons.2 (.inl rfl)))))) rfl) rfl ?_
 refine TL.len hF rfl rfl ?_
 refine TL.bin hF rfl rfl rfl rfl ?_
 refine TL.nil ?_
 refine TQ.then_n ?_
 first | refine T.cond_d rfl (fun ht22=>?_) (fun ht22=>?_) | refine T.cond _ rfl (fun ht22=>?_) (fun ht22=>?_)
 ·refine T.skip ?_
  refine TQ.then_n ?_
  refine T.seq ?_
  refine T.block ?_
  refine T.seq ?_
  refine T.seq ?_
  refine T.region ?_
  refine TL.fieldAddr hF rfl rfl ?_
  refine TL.load hF rfl (own_mem (b:=b5) (cs:=(teC e).toArray) (e:=87) (fz:=(0,0)) (List.mem_cons.2 (.inr (List.mem_cons.2 (.inr (List.mem_cons.2 (.inl rfl)))))) rfl) rfl ?_
  refine TL.bin hF rfl rfl rfl rfl ?_
  refine TL.move hF rfl rfl ?_
  refine TL.join [_,_,_] 31 (.bool (decide (e.op=5) && decide ((0:Int)<(i:Int)))) rfl ?_ ?_
  ·refine TL.gd (t:=28) rfl (fun g5_28=>?_) (fun g5_28=>?_)
   ·refine TL.on rfl rfl rfl (decide_eq_true g5_28) ?_
    refine TL.move hF rfl rfl ?_
    refine TL.on rfl rfl rfl (decide_eq_true g5_28) ?_
    refine TL.bin hF rfl rfl rfl rfl ?_
    refine TL.pickT hF rfl (decide_eq_true g5_28) rfl rfl ?_
    refine TL.finJ ⟨?_,by repeat (first | exact trivial | refine ⟨rfl,?_⟩)⟩
    exact congrArg (fun z=>some (Value.bool z)) (by first | (rw [(decide_eq_true g5_28)]; rfl) | (rw [(decide_eq_true g5_28)]; simp; done) | (simp [*]; done))
   ·refine TL.off hF rfl rfl rfl (decide_eq_false g5_28) rfl ?_
    refine TL.off hF rfl rfl rfl (decide_eq_false g5_28) rfl ?_
    refine TL.pickF hF rfl (decide_eq_false g5_28) rfl rfl ?_
    refine TL.finJ ⟨?_,by repeat (first | exact trivial | refine ⟨rfl,?_⟩)⟩
    exact congrArg (fun z=>some (Value.bool z)) (by first | (rw [(decide_eq_false g5_28)]; rfl) | (rw [(decide_eq_false g5_28)]; simp; done) | (simp [*]; done))
  ·refine TL.move hF rfl rfl ?_
   refine TL.join [_,_,_,_,_,_,_,_] 40 (.bool (decide (e.op=5) && decide ((0:Int)<(i:Int)) && (decide (at0 q.2.1 0≠0) != decide ((i:Int)=1)))) rfl ?_ ?_
   ·refine TL.gb (t:=32) rfl (fun g5_32=>?_) (fun g5_32=>?_)
    ·refine TL.on rfl rfl rfl g5_32 ?_
     refine TL.move hF rfl rfl ?_
     refine TL.on rfl rfl rfl g5_32 ?_
     have hi0:0<i:=by simp only [Bool.and_eq_true,decide_eq_true_eq] at g5_32; omega
     have hlr:Row S w0 (lg::[(b8,Obj.cells ([.slice none 0 0,.slice none 0 0,.slice none 0 0]:List Value).toArray 116 (0,0))]::[(b5,Obj.cells (teC e).toArray 87 (0,0))]::[(b4,Obj.cells (scC fa fl.length fc ca cells.length cc na' l'.length nc').toArray 116 (0,0))]::dg'::(hs'++η)) la (ints q.2.1):=hw'.row (List.mem_cons.2 (.inl rfl))
     refine TL.indexAddr hF rfl rfl (hlr.adi (i:=0) (by simpa [hf4] using hi0)) (by omega) (by dsimp only; omega) rfl ?_
     refine TL.on rfl rfl rfl g5_32 ?_
     refine TL.load hF rfl (rowAt0 hlr (i:=0) (by omega)) rfl ?_
     refine TL.on rfl rfl rfl g5_32 ?_
     refine TL.bin hF rfl rfl rfl rfl ?_
     refine TL.on rfl rfl rfl g5_32 ?_
     refine TL.move hF rfl rfl ?_
     refine TL.on rfl rfl rfl g5_32 ?_
     refine TL.bin hF rfl rfl rfl rfl ?_
     refine TL.on rfl rfl rfl g5_32 ?_
     refine TL.neqB hF rfl rfl rfl ?_
     refine TL.pickT hF rfl g5_32 rfl rfl ?_
     refine TL.finJ ⟨?_,by repeat (first | exact trivial | refine ⟨rfl,?_⟩)⟩
     exact congrArg (fun z=>some (Value.bool z)) (by first | (rw [g5_32]; rfl) | (rw [g5_32]; simp; done) | (simp [*]; done))
    ·refine TL.off hF rfl rfl rfl g5_32 rfl ?_
     refine TL.off hF rfl rfl rfl g5_32 rfl ?_
     refine TL.off hF rfl rfl rfl g5_32 rfl ?_
     refine TL.off hF rfl rfl rfl g5_32 rfl ?_
     refine TL.off hF rfl rfl rfl g5_32 rfl ?_
     refine TL.off hF rfl rfl rfl g5_32 rfl ?_
     refine TL.off hF rfl rfl rfl g5_32 rfl ?_
     refine TL.pickF hF rfl g5_32 rfl rfl ?_
     refine TL.finJ ⟨?_,by repeat (first | exact trivial | refine ⟨rfl,?_⟩)⟩
     exact congrArg (fun z=>some (Value.bool z)) (by first | (rw [g5_32]; rfl) | (rw [g5_32]; simp; done) | (simp [*]; done))
   ·refine TL.nil ?_
    refine TQ.then_n ?_
    refine T.cond _ rfl (fun ht40=>?_) (fun ht40=>?_)
    ·refine T.seq ?_
     refine T.region ?_
     refine TL.move hF rfl rfl ?_
     refine TL.buildSlice hF rfl (cs:=#[.int .i64 0]) (e:=3) (fun w=>by kernel_rfl) rfl (fun bq=>?_)
     refine TL.append hF 1 rfl rfl rfl hw' (row_own (cs:=[.int .i64 0]) (e:=3) (by simp)).src rfl rfl (by simp [Value.oneCell']) (by omega) (by omega) rfl (fun pa pc pg ph=>?_)
     refine TL.hsub (pg::[(b8,Obj.cells ([.slice none 0 0,.slice none 0 0,.slice none 0 0]:List Value).toArray 116 (0,0))]::[(b5,Obj.cells (teC e).toArray 87 (0,0))]::[(b4,Obj.cells (scC fa fl.length fc ca cells.length cc na' l'.length nc').toArray 116 (0,0))]::dg'::(hs'++η)) (List.sublist_cons_self _ _) ?_
     refine TL.assign hF rfl rfl ?_
     refine TL.nil ?_
     refine TQ.then_n ?_
     refine T.exit ?_
     refine TQ.then_x ?_
     refine TQ.block_x ?_
     refine TQ.then_n ?_
     refine T.region ?_
     refine TL.move hF rfl rfl ?_
     refine TL.add hF rfl rfl (by first | omega | (dsimp only; omega)) (by first | omega | (dsimp only; omega)) rfl ?_
     refine TL.assign hF rfl rfl ?_
     refine TL.nil ?_
     have hil:i<e.l.length:=by have h:(i:Int)<(e.l.length:Int):=ht22; omega
     have hstep:(partsR (runS (fl.map TE.ex) cells f) cells arg e.op ((e.l.map TE.ex).take (i+1)) (nds l) ds)=stepR (runS (fl.map TE.ex) cells f) cells arg e.op q e.l[i].ex:=by
      have e1:(e.l.map TE.ex).take (i+1)=(e.l.map TE.ex).take i++[e.l[i].ex]:=by rw [List.take_succ_eq_append_getElem (by simpa using hil)]; simp
      rw [e1,partsR_snoc,hE]
     have hs1:stepR (runS (fl.map TE.ex) cells f) cells arg e.op q e.l[i].ex=(q.1,q.2.1++[0],q.2.2):=by
      have h1:=(Bool.and_eq_true_iff.1 ht40).1
      have h2:=bne_iff_ne.1 (Bool.and_eq_true_iff.1 ht40).2
      simp only [Bool.and_eq_true,decide_eq_true_eq] at h1
      have h3:decide ((i:Int)=1)=decide (q.2.1.length=1):=decide_eq_decide.2 (by omega)
      unfold stepR
      rw [if_pos ⟨h1.1,by omega,by rw [← h3]; exact h2⟩]
     rw [show ints q.2.1++[.int .i64 0]=ints (q.2.1++[0]) from (ints_app q.2.1 [0]).symm] at ph
     refine TQ.round ⟨i+1,l',na',nc',hs',a',c',dg',pa,pc,pg⟩ ⟨by dsimp only; omega,by dsimp only; rw [hstep,hs1]; exact hn',hl',by dsimp only; rw [hstep,hs1]; exact hd',by dsimp only; rw [hstep,hs1]; exact ph⟩ (by dsimp only; omega) ⟨rfl,rfl,rfl,rfl,rfl,rfl,by dsimp only; rw [hstep,hs1]; rfl,rfl,rfl,trivial⟩ rfl
    ·refine T.skip ?_
     refine TQ.then_n ?_
     refine T.seq ?_
     refine T.region ?_
     refine TL.assign hF rfl rfl ?_
     refine TL.nil ?_
     refine TQ.then_n ?_
     refine T.seq ?_
     have hil:i<e.l.length:=by have h:(i:Int)<(e.l.length:Int):=ht22; omega
     have hpi:=(right_iff.1 hr).2.2 e.l[i] (List.getElem_mem hil)
     have hstep:(partsR (runS (fl.map TE.ex) cells f) cells arg e.op ((e.l.map TE.ex).take (i+1)) (nds l) ds)=stepR (runS (fl.map TE.ex) cells f) cells arg e.op q e.l[i].ex:=by
      have e1:(e.l.map TE.ex).take (i+1)=(e.l.map TE.ex).take i++[e.l[i].ex]:=by rw [List.take_succ_eq_append_getElem (by simpa using hil)]; simp
      rw [e1,partsR_snoc,hE]
     refine T.drawH 15 mixed ?_
     refine DH.read (i:=0) [(4,_,none)] rfl rfl rfl rfl ⟨⟨rfl,by kernel_rfl⟩,trivial⟩ (fun ext=>TL.loadA hF (scC fa fl.length fc ca cells.length cc na' l'.length nc') rfl rfl (own_listM (b:=b4) (cs:=(scC fa fl.length fc ca cells.length cc na' l'.length nc')) (e:=116) (fz:=(0,0)) (List.mem_cons.2 (.inr (List.mem_cons.2 (.inr (List.mem_cons.2 (.inr (List.mem_cons.2 (.inl rfl))))))))) rfl TL.fin) ?_
     refine DH.pure (i:=1) [(5,_,none)] rfl rfl rfl rfl ⟨⟨rfl,by kernel_rfl⟩,trivial⟩ (fun _ ext=>TL.fieldAddr hF rfl rfl TL.fin) ?_
     refine DH.read (i:=2) [(46,_,some 1)] rfl rfl rfl rfl ⟨⟨rfl,rfl,rfl⟩,trivial⟩ (fun ext=>TL.load hF rfl (own_mem (b:=b5) (cs:=(teC e).toArray) (e:=87) (fz:=(0,0)) (List.mem_cons.2 (.inr (List.mem_cons.2 (.inr (List.mem_cons.2 (.inl rfl)))))) rfl) rfl TL.fin) ?_
     refine DH.pure (i:=3) [(12,_,none)] rfl rfl rfl rfl ⟨⟨rfl,by kernel_rfl⟩,trivial⟩ (fun _ ext=>TL.move hF rfl rfl TL.fin) ?_
     refine DH.pure (i:=4) [(47,_,some 2),(48,_,some 3)] rfl rfl rfl rfl ⟨⟨rfl,rfl,rfl⟩,⟨rfl,rfl,rfl⟩,trivial⟩ (fun _ ext=>TL.indexAddr hF rfl rfl (hT.fs.ad hil) (by first | omega | (dsimp only; omega)) (by first | omega | (dsimp only; omega)) rfl TL.fin) ?_
     refine DH.read (i:=5) [(49,_,some 4)] rfl rfl rfl rfl ⟨⟨rfl,rfl,rfl⟩,trivial⟩ (fun ext=>TL.loadA hF (teC e.l[i]) rfl rfl (hT.fs.ro.atA (i:=i) hil) rfl TL.fin) ?_
     refine DH.pure (i:=6) [(2,_,none)] rfl rfl rfl rfl ⟨⟨rfl,by kernel_rfl⟩,trivial⟩ (fun _ ext=>TL.move hF rfl rfl TL.fin) ?_
     refine DH.pure (i:=7) [(3,_,none)] rfl rfl rfl rfl ⟨⟨rfl,by kernel_rfl⟩,trivial⟩ (fun _ ext=>TL.move hF rfl rfl TL.fin) ?_
     refine DH.heavy 8 [(45,_,some 0),(50,_,some 5),(51,_,some 6),(52,_,some 7)] (by kernel_rfl) (by kernel_rfl) (by kernel_rfl) (by kernel_rfl) rfl rfl rfl rfl ⟨⟨rfl,rfl,rfl⟩,⟨rfl,rfl,rfl⟩,⟨rfl,rfl,rfl⟩,⟨rfl,rfl,rfl⟩,trivial⟩ (by kernel_rfl) (fun ext=>?_)
     have hst1:=szs_take hil
     have hst2:=szs_le e.l (i+1)
     have hfac:=ev_facts (f:=f) hsc hf h0 harg h200 (e:=e.l[i].ex) (by rw [List.length_map]; exact hpi) hf1 q.2.2
     refine TL.hperm (dg'::(hs'++([lg,[(b8,Obj.cells ([.slice none 0 0,.slice none 0 0,.slice none 0 0]:List Value).toArray 116 (0,0))],[(b5,Obj.cells (teC e).toArray 87 (0,0))],[(b4,Obj.cells (scC fa fl.length fc ca cells.length cc na' l'.length nc').toArray 116 (0,0))]]++η))) (perm_cnt fun f=>by simp only [List.map_append,List.map_cons,List.map_nil,List.sum_append,List.sum_cons,List.sum_nil]; omega) ?_
     refine TL.call hF (IH e.l[i] (by have:=size_get (e:=e) hil; omega) arg l' na' nc' hs' ([lg,[(b8,Obj.cells ([.slice none 0 0,.slice none 0 0,.slice none 0 0]:List Value).toArray 116 (0,0))],[(b5,Obj.cells (teC e).toArray 87 (0,0))],[(b4,Obj.cells (scC fa fl.length fc ca cells.length cc na' l'.length nc').toArray 116 (0,0))]]++η) q.2.2 a' c' dg' (hcl.up (fun s hs=>List.mem_append_right _ hs)) (hT.part hil) hpi h0 harg h200 (by rw [hn']; exact hf1) hl' hd' (by omega)) rfl rfl ?_
     rintro _ _ ⟨l2,na2,nc2,hs2,a2,c2,dg2,rfl,hn2,hl2,hd2,rfl⟩
     rw [hn'] at hn2 hd2 ⊢
     refine TL.hperm (lg::[(b8,Obj.cells ([.slice none 0 0,.slice none 0 0,.slice none 0 0]:List Value).toArray 116 (0,0))]::[(b5,Obj.cells (teC e).toArray 87 (0,0))]::[(b4,Obj.cells (scC fa fl.length fc ca cells.length cc na' l'.length nc').toArray 116 (0,0))]::dg2::(hs2++η)) (perm_cnt fun f=>by simp only [List.map_append,List.map_cons,List.map_nil,List.sum_append,List.sum_cons,List.sum_nil]; omega) ?_
     refine TL.finD ?_
     refine DH.pure (i:=9) [(53,_,some 8)] rfl rfl rfl rfl ⟨⟨rfl,rfl,rfl⟩,trivial⟩ (fun _ ext=>TL.move hF rfl rfl TL.fin) ?_
     refine DH.pure (i:=10) [(44,_,some 9)] rfl rfl rfl rfl ⟨⟨rfl,rfl,rfl⟩,trivial⟩ (fun _ ext=>TL.extract hF rfl rfl rfl TL.fin) ?_
     refine DH.pure (i:=11) [(44,_,some 9)] rfl rfl rfl rfl ⟨⟨rfl,rfl,rfl⟩,trivial⟩ (fun _ ext=>TL.extract hF rfl rfl rfl TL.fin) ?_
     refine DH.pure (i:=12) [(44,_,some 9)] rfl rfl rfl rfl ⟨⟨rfl,rfl,rfl⟩,trivial⟩ (fun _ ext=>TL.extract hF rfl rfl rfl TL.fin) ?_
     refine DH.k1 (by kernel_rfl) (by kernel_rfl) (by kernel_rfl) (by kernel_rfl) (HBK.mk (h:=13) [] [(4,_,none),(54,_,some 10)] rfl rfl rfl ⟨⟨rfl,by kernel_rfl⟩,⟨rfl,rfl,rfl⟩,trivial⟩ (by kernel_rfl) (fun ext=>?_))
     refine TL.storeAs hF (scC fa fl.length fc ca cells.length cc na2 l2.length nc2) (scC fa fl.length fc ca cells.length cc na2 l2.length nc2) 3 (cs:=(scC fa fl.length fc ca cells.length cc na' l'.length nc')) rfl rfl rfl rfl (by simp [Value.oneCell']) (Nat.le_refl 3) rfl ?_
     refine TL.finKN trivial ?_
     refine DH.pure (i:=14) [(55,_,some 11)] rfl rfl rfl rfl ⟨⟨rfl,rfl,rfl⟩,trivial⟩ (fun _ ext=>TL.assign hF rfl rfl TL.fin) ?_
     refine DH.done [(13,_),(56,_),(55,_),(54,_),(44,_),(53,_),(52,_),(51,_),(50,_),(49,_),(48,_),(47,_),(46,_),(45,_)] [_] (by kernel_rfl) (by kernel_rfl) (by kernel_rfl) (by kernel_rfl) rfl rfl ?_
     refine TL.assign hF rfl rfl ?_
     refine TL.nil ?_
     refine TQ.then_n ?_
     refine T.region ?_
     refine TL.move hF rfl rfl ?_
     refine TL.move hF rfl rfl ?_
     refine TL.buildSlice hF rfl (cs:=#[.int .i64 (evalS (runS (fl.map TE.ex) cells f) cells arg e.l[i].ex q.1 q.2.2).2.1]) (e:=3) (fun w=>by kernel_rfl) rfl (fun bq=>?_)
     refine TL.append hF 1 rfl rfl rfl hw' (row_own (cs:=[.int .i64 (evalS (runS (fl.map TE.ex) cells f) cells arg e.l[i].ex q.1 q.2.2).2.1]) (e:=3) (by simp)).src rfl rfl (by simp [Value.oneCell']) (by omega) (by omega) rfl (fun pa pc pg ph=>?_)
     refine TL.hsub (pg::[(b8,Obj.cells ([.slice none 0 0,.slice none 0 0,.slice none 0 0]:List Value).toArray 116 (0,0))]::[(b5,Obj.cells (teC e).toArray 87 (0,0))]::[(b4,Obj.cells (scC fa fl.length fc ca cells.length cc na2 l2.length nc2).toArray 116 (0,0))]::dg2::(hs2++η)) (List.sublist_cons_self _ _) ?_
     refine TL.assign hF rfl rfl ?_
     refine TL.nil ?_
     refine TQ.block_n ?_
     refine TQ.then_n ?_
     refine T.region ?_
     refine TL.move hF rfl rfl ?_
     refine TL.add hF rfl rfl (by first | omega | (dsimp only; omega)) (by first | omega | (dsimp only; omega)) rfl ?_
     refine TL.assign hF rfl rfl ?_
     refine TL.nil ?_
     have hs1:stepR (runS (fl.map TE.ex) cells f) cells arg e.op q e.l[i].ex=((evalS (runS (fl.map TE.ex) cells f) cells arg e.l[i].ex q.1 q.2.2).1,q.2.1++[(evalS (runS (fl.map TE.ex) cells f) cells arg e.l[i].ex q.1 q.2.2).2.1],(evalS (runS (fl.map TE.ex) cells f) cells arg e.l[i].ex q.1 q.2.2).2.2):=by
      unfold stepR
      rw [if_neg]
      rintro ⟨q1,q2,q3⟩
      have h3:decide ((i:Int)=1)=decide (q.2.1.length=1):=decide_eq_decide.2 (by omega)
      rw [← Bool.not_eq_true] at ht40
      apply ht40
      rw [Bool.and_eq_true_iff,Bool.and_eq_true_iff,decide_eq_true_eq,decide_eq_true_eq]
      exact ⟨⟨q1,by omega⟩,bne_iff_ne.2 (by rw [h3]; exact q3)⟩
     rw [show ints q.2.1++[.int .i64 (evalS (runS (fl.map TE.ex) cells f) cells arg e.l[i].ex q.1 q.2.2).2.1]=ints (q.2.1++[(evalS (runS (fl.map TE.ex) cells f) cells arg e.l[i].ex q.1 q.2.2).2.1]) from (ints_app q.2.1 [_]).symm] at ph
     refine TQ.round ⟨i+1,l2,na2,nc2,hs2,a2,c2,dg2,pa,pc,pg⟩ ⟨by dsimp only; omega,by dsimp only; rw [hstep,hs1]; exact hn2,hl2,by dsimp only; rw [hstep,hs1]; exact hd2,by dsimp only; rw [hstep,hs1]; exact ph⟩ (by dsimp only; omega) ⟨rfl,rfl,rfl,rfl,rfl,rfl,by dsimp only; rw [hstep,hs1]; rfl,rfl,rfl,trivial⟩ rfl
 ·refine T.exit ?_
  refine TQ.then_x ?_
  refine TQ.then_x ?_
  refine TQ.block_x ?_
  refine TQ.then_n ?_
  refine T.seq ?_
  refine T.seq ?_
  refine T.region ?_
  have hie:i=e.l.length:=by have h:¬ (i:Int)<(e.l.length:Int):=ht22; omega
  rw [hie,List.take_of_length_le (by simp)] at hE
  have hlr:∀ η',lg∈η'→Row S w0 η' la (ints q.2.1):=fun η' hm=>hw'.row hm
  have hw0:=wd_at' hf2 0
  have hw1:=wd_at' hf2 1
  have hw2:=wd_at' hf2 2
  have hlen':l'.length≤1608:=by rw [← nds_len,hn']; exact good_len hsc hf1
  have hparts:=(right_iff.1 hr).1
  refine TL.fieldAddr hF rfl rfl ?_
  refine TL.load hF rfl (own_mem (b:=b5) (cs:=(teC e).toArray) (e:=87) (fz:=(0,0)) (List.mem_cons.2 (.inr (List.mem_cons.2 (.inr (List.mem_cons.2 (.inl rfl)))))) rfl) rfl ?_
  refine TL.nil ?_
  refine TQ.then_n ?_
  refine T.block ?_
  refine T.seq ?_
  refine T.region ?_
  refine TL.bin hF rfl rfl rfl rfl ?_
  refine TL.assign hF rfl rfl ?_
  refine TL.nil ?_
  refine TQ.then_n ?_
  refine T.cond_d rfl (fun ht63=>?_) (fun ht63=>?_)
  ·refine T.seq ?_
   refine T.drawH 6 mixed ?_
   refine DH.read (i:=0) [(4,_,none)] rfl rfl rfl rfl ⟨⟨rfl,by kernel_rfl⟩,trivial⟩ (fun ext=>TL.loadA hF (scC fa fl.length fc ca cells.length cc na' l'.length nc') rfl rfl (own_listM (b:=b4) (cs:=(scC fa fl.length fc ca cells.length cc na' l'.length nc')) (e:=116) (fz:=(0,0)) (List.mem_cons.2 (.inr (List.mem_cons.2 (.inr (List.mem_cons.2 (.inr (List.mem_cons.2 (.inl rfl))))))))) rfl TL.fin) ?_
   refine DH.pure (i:=1) [(5,_,none)] rfl rfl rfl rfl ⟨⟨rfl,by kernel_rfl⟩,trivial⟩ (fun _ ext=>TL.fieldAddr hF rfl rfl TL.fin) ?_
   refine DH.read (i:=2) [(66,_,some 1)] rfl rfl rfl rfl ⟨⟨rfl,rfl,rfl⟩,trivial⟩ (fun ext=>TL.load hF rfl (own_mem (b:=b5) (cs:=(teC e).toArray) (e:=87) (fz:=(0,0)) (List.mem_cons.2 (.inr (List.mem_cons.2 (.inr (List.mem_cons.2 (.inl rfl)))))) rfl) rfl TL.fin) ?_
   refine DH.pure (i:=3) [(3,_,none)] rfl rfl rfl rfl ⟨⟨rfl,by kernel_rfl⟩,trivial⟩ (fun _ ext=>TL.move hF rfl rfl TL.fin) ?_
   refine DH.k1 (by kernel_rfl) (by kernel_rfl) (by kernel_rfl) (by kernel_rfl) (HBK.mk (h:=4) [2] [(8,_,none),(65,_,some 0)] rfl rfl rfl ⟨⟨rfl,by kernel_rfl⟩,⟨rfl,rfl,rfl⟩,trivial⟩ (by kernel_rfl) (fun ext=>?_))
   refine TL.storeAs hF (scC fa fl.length fc ca cells.length cc na' l'.length nc') (scC fa fl.length fc ca cells.length cc na' l'.length nc') 1 (cs:=[.slice none 0 0,.slice none 0 0,.slice none 0 0]) rfl rfl rfl rfl (by simp [Value.oneCell']) (Nat.le_refl 3) rfl ?_
   refine TL.finKN ⟨⟨_,rfl,_,_,[(66,_,some 1)],rfl,rfl,⟨⟨rfl,rfl,rfl⟩,trivial⟩,fun ext=>TL.load hF rfl (own_mem (b:=b5) (cs:=(teC e).toArray) (e:=87) (fz:=(0,0)) (List.mem_cons.2 (.inr (List.mem_cons.2 (.inr (List.mem_cons.2 (.inl rfl)))))) rfl) rfl TL.fin⟩,trivial⟩ ?_
   refine DH.pure (i:=5) [(67,_,some 2)] rfl rfl rfl rfl ⟨⟨rfl,rfl,rfl⟩,trivial⟩ (fun _ ext=>TL.assign hF rfl rfl TL.fin) ?_
   refine DH.done [(9,_),(68,_),(67,_),(66,_),(65,_)] [_] (by kernel_rfl) (by kernel_rfl) (by kernel_rfl) (by kernel_rfl) rfl rfl ?_
   refine TL.assign hF rfl rfl ?_
   refine TL.nil ?_
   refine TQ.then_n ?_
   refine T.ret ?_
   refine TQ.block_r ?_
   refine TQ.then_r ?_
   have hq:q=(nds l,[],ds):=by
    rw [← hE,show e.l=[] from List.length_eq_zero_iff.1 (by rw [ht63] at hparts; have:partsS 0=0:=rfl; omega)]; rfl
   refine TQ.retX [.cell 8 116,.tmp 9,.tmp 10] [_,_,_] (dg'::(hs'++η)) rfl ⟨ResV.agg (scC fa fl.length fc ca cells.length cc na' l'.length nc') rfl rfl (own_list (i:=1) (cs:=(scC fa fl.length fc ca cells.length cc na' l'.length nc')) rfl),rfl,rfl,trivial⟩ rfl (List.Sublist.cons _ (List.Sublist.cons _ (List.Sublist.cons _ (List.Sublist.cons _ (List.Sublist.refl _))))) ?_
   rw [show (evalS (runS (fl.map TE.ex) cells f) cells arg e.ex (nds l) ds)=(q.1,e.n,q.2.2) by rw [ex_eq,evS_0 ht63,hq]]
   exact ⟨l',na',nc',hs',a',c',dg',rfl,hn',hl',hd',rfl⟩
  ·refine T.seq ?_
   refine T.region ?_
   refine TL.bin hF rfl rfl rfl rfl ?_
   refine TL.assign hF rfl rfl ?_
   refine TL.nil ?_
   refine TQ.then_n ?_
   first | refine T.cond_d rfl (fun ht69=>?_) (fun ht69=>?_) | refine T.cond _ rfl (fun ht69=>?_) (fun ht69=>?_)
   ·refine T.seq ?_
    refine T.region ?_
    refine TL.loadA hF (scC fa fl.length fc ca cells.length cc na' l'.length nc') rfl rfl (own_listM (b:=b4) (cs:=(scC fa fl.length fc ca cells.length cc na' l'.length nc')) (e:=116) (fz:=(0,0)) (List.mem_cons.2 (.inr (List.mem_cons.2 (.inr (List.mem_cons.2 (.inr (List.mem_cons.2 (.inl rfl))))))))) rfl ?_
    refine TL.move hF rfl rfl ?_
    refine TL.move hF rfl rfl ?_
    refine TL.storeAs hF (scC fa fl.length fc ca cells.length cc na' l'.length nc') (scC fa fl.length fc ca cells.length cc na' l'.length nc') 1 (cs:=[.slice none 0 0,.slice none 0 0,.slice none 0 0]) rfl rfl rfl rfl (by simp [Value.oneCell']) (Nat.le_refl 3) rfl ?_
    refine TL.assign hF rfl rfl ?_
    refine TL.assign hF rfl rfl ?_
    refine TL.nil ?_
    refine TQ.then_n ?_
    refine T.ret ?_
    refine TQ.block_r ?_
    refine TQ.then_r ?_
    have hq:q=(nds l,[],ds):=by
     rw [← hE,show e.l=[] from List.length_eq_zero_iff.1 (by rw [ht69] at hparts; have:partsS 1=0:=rfl; omega)]; rfl
    refine TQ.retX [.cell 8 116,.tmp 9,.tmp 10] [_,_,_] (dg'::(hs'++η)) rfl ⟨ResV.agg (scC fa fl.length fc ca cells.length cc na' l'.length nc') rfl rfl (own_list (i:=1) (cs:=(scC fa fl.length fc ca cells.length cc na' l'.length nc')) rfl),rfl,rfl,trivial⟩ rfl (List.Sublist.cons _ (List.Sublist.cons _ (List.Sublist.cons _ (List.Sublist.cons _ (List.Sublist.refl _))))) ?_
    rw [show (evalS (runS (fl.map TE.ex) cells f) cells arg e.ex (nds l) ds)=(q.1,arg,q.2.2) by rw [ex_eq,evS_1 ht69,hq]]
    exact ⟨l',na',nc',hs',a',c',dg',rfl,hn',hl',hd',rfl⟩
   ·refine T.seq ?_
    refine T.region ?_
    refine TL.bin hF rfl rfl rfl rfl ?_
    refine TL.assign hF rfl rfl ?_
    refine TL.nil ?_
    refine TQ.then_n ?_
    first | refine T.cond_d rfl (fun ht74=>?_) (fun ht74=>?_) | refine T.cond _ rfl (fun ht74=>?_) (fun ht74=>?_)
    ·refine T.seq ?_
     have hp1:e.l.length=1:=by rw [ht74] at hparts; have:partsS 2=1:=rfl; omega
     refine T.draw ?_
     refine DR.stepV [_] rfl [(11,_,none)] rfl rfl ⟨⟨rfl,by kernel_rfl⟩,trivial⟩ (fun ext=>TL.move hF rfl rfl TL.fin) ?_
     refine DR.stepV [_,_] rfl [(76,_,some 0)] rfl rfl ⟨⟨rfl,rfl,rfl⟩,trivial⟩ (fun ext=>TL.indexAddr hF rfl rfl ((hlr [lg] (List.mem_cons.2 (.inl rfl))).adi (i:=0) (by rw [List.length_map]; omega)) (by omega) (by dsimp only; omega) rfl TL.fin) ?_
     refine DR.stepV [_,_,_] rfl [(77,_,some 1)] rfl rfl ⟨⟨rfl,rfl,rfl⟩,trivial⟩ (fun ext=>TL.load hF rfl (rowAt0 (hlr _ (List.mem_cons.2 (.inl rfl))) (i:=0) (by omega)) rfl TL.fin) ?_
     refine DR.stepV [_,_,_,_] rfl [(4,_,none)] rfl rfl ⟨⟨rfl,by kernel_rfl⟩,trivial⟩ (fun ext=>TL.fieldAddr hF rfl rfl TL.fin) ?_
     refine DR.stepV [_,_,_,_,_] rfl [(79,_,some 3)] rfl rfl ⟨⟨rfl,rfl,rfl⟩,trivial⟩ (fun ext=>TL.load hF rfl (own_mem (b:=b4) (cs:=((scC fa fl.length fc ca cells.length cc na' l'.length nc')).toArray) (e:=116) (fz:=(0,0)) (List.mem_cons.2 (.inr (List.mem_cons.2 (.inr (List.mem_cons.2 (.inr (List.mem_cons.2 (.inl rfl)))))))) rfl) rfl TL.fin) ?_
     refine DR.stepV [_,_,_,_,_,_] rfl [(80,_,some 4)] rfl rfl ⟨⟨rfl,rfl,rfl⟩,trivial⟩ (fun ext=>TL.len hF rfl rfl TL.fin) ?_
     refine DR.done [(81,_),(80,_),(79,_),(78,_),(77,_),(76,_)] [_,_] mixed (by kernel_rfl) (by kernel_rfl) (by kernel_rfl) rfl rfl ?_
     refine TL.callV hF (Turn_fn (at0 q.2.1 0) (m:=(cells.length:Int)) (by have:=hsc.c2; omega)) rfl rfl ?_
     refine TL.assign hF rfl rfl ?_
     refine TL.nil ?_
     refine TQ.then_n ?_
     refine T.seq ?_
     have hc1:=hsc.c1
     have hc2:=hsc.c2
     have hat:=cellAt_lt hc1 (at0 q.2.1 0)
     have htu:turnI (at0 q.2.1 0) (cells.length:Int)=(((cellAt cells (at0 q.2.1 0)):Nat):Int):=by
      unfold turnI cellAt
      rw [if_neg (by omega)]
      have:=Int.emod_nonneg (at0 q.2.1 0) (show (cells.length:Int)≠0 by omega)
      omega
     rw [htu]
     refine T.drawH 17 mixed ?_
     refine DH.read (i:=0) [(4,_,none)] rfl rfl rfl rfl ⟨⟨rfl,by kernel_rfl⟩,trivial⟩ (fun ext=>TL.loadA hF (scC fa fl.length fc ca cells.length cc na' l'.length nc') rfl rfl (own_listM (b:=b4) (cs:=(scC fa fl.length fc ca cells.length cc na' l'.length nc')) (e:=116) (fz:=(0,0)) (by first | exact (List.mem_cons.2 (.inr (List.mem_cons.2 (.inr (List.mem_cons.2 (.inr (List.mem_cons.2 (.inl rfl)))))))) | exact (List.mem_cons.2 (.inr (List.mem_cons.2 (.inr (List.mem_cons.2 (.inr (List.mem_cons.2 (.inr (List.mem_cons.2 (.inl rfl)))))))))))) rfl TL.fin) ?_
     refine DH.pure (i:=1) [(4,_,none)] rfl rfl rfl rfl ⟨⟨rfl,by kernel_rfl⟩,trivial⟩ (fun _ ext=>TL.fieldAddr hF rfl rfl TL.fin) ?_
     refine DH.read (i:=2) [(84,_,some 1)] rfl rfl rfl rfl ⟨⟨rfl,rfl,rfl⟩,trivial⟩ (fun ext=>TL.load hF rfl (own_mem (b:=b4) (cs:=((scC fa fl.length fc ca cells.length cc na' l'.length nc')).toArray) (e:=116) (fz:=(0,0)) (by first | exact (List.mem_cons.2 (.inr (List.mem_cons.2 (.inr (List.mem_cons.2 (.inr (List.mem_cons.2 (.inl rfl)))))))) | exact (List.mem_cons.2 (.inr (List.mem_cons.2 (.inr (List.mem_cons.2 (.inr (List.mem_cons.2 (.inr (List.mem_cons.2 (.inl rfl))))))))))) rfl) rfl TL.fin) ?_
     refine DH.pure (i:=3) [(14,_,none)] rfl rfl rfl rfl ⟨⟨rfl,by kernel_rfl⟩,trivial⟩ (fun _ ext=>TL.move hF rfl rfl TL.fin) ?_
     refine DH.pure (i:=4) [(85,_,some 2),(86,_,some 3)] rfl rfl rfl rfl ⟨⟨rfl,rfl,rfl⟩,⟨rfl,rfl,rfl⟩,trivial⟩ (fun _ ext=>TL.indexAddr hF rfl rfl (hcl.adi (i:=(cellAt cells (at0 q.2.1 0))) (by simpa using hat)) (by omega) (by first | omega | (dsimp only; omega)) rfl TL.fin) ?_
     refine DH.read (i:=5) [(87,_,some 4)] rfl rfl rfl rfl ⟨⟨rfl,rfl,rfl⟩,trivial⟩ (fun ext=>TL.load hF rfl (rowAt0 (hcl.up (by intro s hs; simp [hs])) hat) rfl TL.fin) ?_
     refine DH.pure (i:=6) [(3,_,none)] rfl rfl rfl rfl ⟨⟨rfl,by kernel_rfl⟩,trivial⟩ (fun _ ext=>TL.move hF rfl rfl TL.fin) ?_
     refine DH.pure (i:=7) [(14,_,none)] rfl rfl rfl rfl ⟨⟨rfl,by kernel_rfl⟩,trivial⟩ (fun _ ext=>TL.move hF rfl rfl TL.fin) ?_
     refine DH.pure (i:=8) [(4,_,none)] rfl rfl rfl rfl ⟨⟨rfl,by kernel_rfl⟩,trivial⟩ (fun _ ext=>TL.fieldAddr hF rfl rfl TL.fin) ?_
     refine DH.read (i:=9) [(91,_,some 8)] rfl rfl rfl rfl ⟨⟨rfl,rfl,rfl⟩,trivial⟩ (fun ext=>TL.load hF rfl (own_mem (b:=b4) (cs:=((scC fa fl.length fc ca cells.length cc na' l'.length nc')).toArray) (e:=116) (fz:=(0,0)) (by first | exact (List.mem_cons.2 (.inr (List.mem_cons.2 (.inr (List.mem_cons.2 (.inr (List.mem_cons.2 (.inl rfl)))))))) | exact (List.mem_cons.2 (.inr (List.mem_cons.2 (.inr (List.mem_cons.2 (.inr (List.mem_cons.2 (.inr (List.mem_cons.2 (.inl rfl))))))))))) rfl) rfl TL.fin) ?_
     refine DH.pure (i:=10) [(14,_,none)] rfl rfl rfl rfl ⟨⟨rfl,by kernel_rfl⟩,trivial⟩ (fun _ ext=>TL.move hF rfl rfl TL.fin) ?_
     refine DH.pure (i:=11) [(92,_,some 9),(93,_,some 10)] rfl rfl rfl rfl ⟨⟨rfl,rfl,rfl⟩,⟨rfl,rfl,rfl⟩,trivial⟩ (fun _ ext=>TL.indexAddr hF rfl rfl (hcl.adi (i:=(cellAt cells (at0 q.2.1 0))) (by simpa using hat)) (by omega) (by first | omega | (dsimp only; omega)) rfl TL.fin) ?_
     refine DH.read (i:=12) [(94,_,some 11)] rfl rfl rfl rfl ⟨⟨rfl,rfl,rfl⟩,trivial⟩ (fun ext=>TL.load hF rfl (rowAt0 (hcl.up (by intro s hs; simp [hs])) hat) rfl TL.fin) ?_
     refine DH.pure (i:=13) [(90,_,some 7),(95,_,some 12)] rfl rfl rfl rfl ⟨⟨rfl,rfl,rfl⟩,⟨rfl,rfl,rfl⟩,trivial⟩ (fun _ ext=>TL.build hF rfl (r:=.agg (dpC (cellD ((cellAt cells (at0 q.2.1 0)):Nat) (at0 cells (cellAt cells (at0 q.2.1 0))))).toArray) (fun w=>by kernel_rfl) rfl TL.fin) ?_
     refine DH.k1 (by kernel_rfl) (by kernel_rfl) (by kernel_rfl) (by kernel_rfl) (HBK.mk (h:=14) [0,2,5] [(96,_,some 13)] rfl rfl rfl ⟨⟨rfl,rfl,rfl⟩,trivial⟩ (by kernel_rfl) (fun ext=>?_))
     refine TL.buildSlice hF rfl (cs:=(dpC (cellD ((cellAt cells (at0 q.2.1 0)):Nat) (at0 cells (cellAt cells (at0 q.2.1 0))))).toArray) (e:=56) (fun w=>by kernel_rfl) rfl (fun bq=>?_)
     refine TL.finK ⟨⟨_,rfl,_,_,[(4,_,none)],rfl,rfl,⟨⟨rfl,by kernel_rfl⟩,trivial⟩,fun ext=>TL.loadA hF (scC fa fl.length fc ca cells.length cc na' l'.length nc') rfl rfl (own_listM (b:=b4) (cs:=(scC fa fl.length fc ca cells.length cc na' l'.length nc')) (e:=116) (fz:=(0,0)) (by first | exact (List.mem_cons.2 (.inr (List.mem_cons.2 (.inr (List.mem_cons.2 (.inr (List.mem_cons.2 (.inl rfl)))))))) | exact (List.mem_cons.2 (.inr (List.mem_cons.2 (.inr (List.mem_cons.2 (.inr (List.mem_cons.2 (.inr (List.mem_cons.2 (.inl rfl)))))))))))) rfl TL.fin⟩,⟨_,rfl,_,_,[(84,_,some 1)],rfl,rfl,⟨⟨rfl,rfl,rfl⟩,trivial⟩,fun ext=>TL.load hF rfl (own_mem (b:=b4) (cs:=((scC fa fl.length fc ca cells.length cc na' l'.length nc')).toArray) (e:=116) (fz:=(0,0)) (by first | exact (List.mem_cons.2 (.inr (List.mem_cons.2 (.inr (List.mem_cons.2 (.inr (List.mem_cons.2 (.inl rfl)))))))) | exact (List.mem_cons.2 (.inr (List.mem_cons.2 (.inr (List.mem_cons.2 (.inr (List.mem_cons.2 (.inr (List.mem_cons.2 (.inl rfl))))))))))) rfl) rfl TL.fin⟩,⟨_,rfl,_,_,[(87,_,some 4)],rfl,rfl,⟨⟨rfl,rfl,rfl⟩,trivial⟩,fun ext=>TL.load hF rfl (rowAt0 (hcl.up (by intro s hs; simp [hs])) hat) rfl TL.fin⟩,trivial⟩ ?_
     refine DH.k1 (by kernel_rfl) (by kernel_rfl) (by kernel_rfl) (by kernel_rfl) (HBK.mk (h:=15) [0,2,5] [(89,_,some 6),(97,_,some 14)] rfl rfl rfl ⟨⟨rfl,rfl,rfl⟩,⟨rfl,rfl,rfl⟩,trivial⟩ (by kernel_rfl) (fun ext=>?_))
     refine TL.append hF 5 rfl rfl rfl hd' (row_own (cs:=dpC (cellD ((cellAt cells (at0 q.2.1 0)):Nat) (at0 cells (cellAt cells (at0 q.2.1 0))))) (e:=56) (b:=bq) (List.mem_cons.2 (.inl rfl))).src rfl rfl (dpC1 _) (by omega) (by omega) rfl (fun pa pc pg ph=>?_)
     refine TL.finK ⟨⟨_,rfl,_,_,[(4,_,none)],rfl,rfl,⟨⟨rfl,by kernel_rfl⟩,trivial⟩,fun ext=>TL.loadA hF (scC fa fl.length fc ca cells.length cc na' l'.length nc') rfl rfl (own_listM (b:=b4) (cs:=(scC fa fl.length fc ca cells.length cc na' l'.length nc')) (e:=116) (fz:=(0,0)) (by first | exact (List.mem_cons.2 (.inr (List.mem_cons.2 (.inr (List.mem_cons.2 (.inr (List.mem_cons.2 (.inl rfl)))))))) | exact (List.mem_cons.2 (.inr (List.mem_cons.2 (.inr (List.mem_cons.2 (.inr (List.mem_cons.2 (.inr (List.mem_cons.2 (.inl rfl)))))))))))) rfl TL.fin⟩,⟨_,rfl,_,_,[(84,_,some 1)],rfl,rfl,⟨⟨rfl,rfl,rfl⟩,trivial⟩,fun ext=>TL.load hF rfl (own_mem (b:=b4) (cs:=((scC fa fl.length fc ca cells.length cc na' l'.length nc')).toArray) (e:=116) (fz:=(0,0)) (by first | exact (List.mem_cons.2 (.inr (List.mem_cons.2 (.inr (List.mem_cons.2 (.inr (List.mem_cons.2 (.inl rfl)))))))) | exact (List.mem_cons.2 (.inr (List.mem_cons.2 (.inr (List.mem_cons.2 (.inr (List.mem_cons.2 (.inr (List.mem_cons.2 (.inl rfl))))))))))) rfl) rfl TL.fin⟩,⟨_,rfl,_,_,[(87,_,some 4)],rfl,rfl,⟨⟨rfl,rfl,rfl⟩,trivial⟩,fun ext=>TL.load hF rfl (rowAt0 (hcl.up (by intro s hs; simp [hs])) hat) rfl TL.fin⟩,trivial⟩ ?_
     refine DH.k1 (by kernel_rfl) (by kernel_rfl) (by kernel_rfl) (by kernel_rfl) (HBK.mk (h:=16) [2,5] [(8,_,none),(83,_,some 0)] rfl rfl rfl ⟨⟨rfl,by kernel_rfl⟩,⟨rfl,rfl,rfl⟩,trivial⟩ (by kernel_rfl) (fun ext=>?_))
     refine TL.storeAs hF (scC fa fl.length fc ca cells.length cc na' l'.length nc') (scC fa fl.length fc ca cells.length cc na' l'.length nc') 2 (cs:=[.slice none 0 0,.slice none 0 0,.slice none 0 0]) rfl rfl rfl rfl (by simp [Value.oneCell']) (Nat.le_refl 3) rfl ?_
     refine TL.finKN ⟨⟨_,rfl,_,_,[(84,_,some 1)],rfl,rfl,⟨⟨rfl,rfl,rfl⟩,trivial⟩,fun ext=>TL.load hF rfl (own_mem (b:=b4) (cs:=((scC fa fl.length fc ca cells.length cc na' l'.length nc')).toArray) (e:=116) (fz:=(0,0)) (by first | exact (List.mem_cons.2 (.inr (List.mem_cons.2 (.inr (List.mem_cons.2 (.inr (List.mem_cons.2 (.inl rfl)))))))) | exact (List.mem_cons.2 (.inr (List.mem_cons.2 (.inr (List.mem_cons.2 (.inr (List.mem_cons.2 (.inr (List.mem_cons.2 (.inl rfl))))))))))) rfl) rfl TL.fin⟩,⟨_,rfl,_,_,[(87,_,some 4)],rfl,rfl,⟨⟨rfl,rfl,rfl⟩,trivial⟩,fun ext=>TL.load hF rfl (rowAt0 (hcl.up (by intro s hs; simp [hs])) hat) rfl TL.fin⟩,trivial⟩ ?_
     refine DH.done [(98,_),(97,_),(96,_),(95,_),(94,_),(93,_),(92,_),(91,_),(90,_),(89,_),(88,_),(87,_),(86,_),(85,_),(84,_),(83,_)] [_,_] (by kernel_rfl) (by kernel_rfl) (by kernel_rfl) (by kernel_rfl) rfl rfl ?_
     refine TL.assign hF rfl rfl ?_
     refine TL.assign hF rfl rfl ?_
     refine TL.nil ?_
     refine TQ.then_n ?_
     refine T.ret ?_
     refine TQ.block_r ?_
     refine TQ.then_r ?_
     have hev:(evalS (runS (fl.map TE.ex) cells f) cells arg e.ex (nds l) ds)=finS (runS (fl.map TE.ex) cells f) cells arg e.op e.n q.2.1 q.1 q.2.2:=by
      rw [ex_eq,evS_f ht63 ht69 (show e.op≠5 by omega)]
      have h:=partsR_other (runS (fl.map TE.ex) cells f) cells arg (show e.op≠5 by omega) (e.l.map TE.ex) (nds l) [] ds
      rw [show (e.l.map TE.ex).foldl (stepR (runS (fl.map TE.ex) cells f) cells arg e.op) (nds l,[],ds)=q from hE] at h
      rw [h]; rfl
     have hlq:q.2.2.length+1=(q.2.2++[(cellD ((cellAt cells (at0 q.2.1 0)):Nat) (at0 cells (cellAt cells (at0 q.2.1 0))))]).length:=by simp
     have hcq:q.2.2.flatMap dpC++dpC (cellD ((cellAt cells (at0 q.2.1 0)):Nat) (at0 cells (cellAt cells (at0 q.2.1 0))))=(q.2.2++[(cellD ((cellAt cells (at0 q.2.1 0)):Nat) (at0 cells (cellAt cells (at0 q.2.1 0))))]).flatMap dpC:=by simp
     rw [hcq,hlq] at ph
     refine TQ.retX [.cell 8 116,.tmp 9,.tmp 10] [_,_,_] (pg::(hs'++η)) rfl ⟨ResV.agg (scC fa fl.length fc ca cells.length cc na' l'.length nc') rfl rfl (own_list (i:=2) (cs:=(scC fa fl.length fc ca cells.length cc na' l'.length nc')) rfl),rfl,rfl,trivial⟩ rfl (List.Sublist.cons _ (List.Sublist.cons _ (List.Sublist.cons _ (List.Sublist.cons _ (List.Sublist.cons _ (List.Sublist.refl _)))))) ?_
     rw [hev,finS,if_pos ht74]
     exact ⟨l',na',nc',hs',pa,pc,pg,by rw [← hlq]; rfl,hn',hl',ph,rfl⟩
    ·refine T.seq ?_
     refine T.region ?_
     refine TL.bin hF rfl rfl rfl rfl ?_
     refine TL.assign hF rfl rfl ?_
     refine TL.nil ?_
     refine TQ.then_n ?_
     first | refine T.cond_d rfl (fun ht99=>?_) (fun ht99=>?_) | refine T.cond _ rfl (fun ht99=>?_) (fun ht99=>?_)
     ·refine T.seq ?_
      have hp1:e.l.length=2:=by rw [ht99] at hparts; have:partsS 3=2:=rfl; omega
      refine T.drawH 13 mixed ?_
      refine DH.read (i:=0) [(4,_,none)] rfl rfl rfl rfl ⟨⟨rfl,by kernel_rfl⟩,trivial⟩ (fun ext=>TL.loadA hF (scC fa fl.length fc ca cells.length cc na' l'.length nc') rfl rfl (own_listM (b:=b4) (cs:=(scC fa fl.length fc ca cells.length cc na' l'.length nc')) (e:=116) (fz:=(0,0)) (List.mem_cons.2 (.inr (List.mem_cons.2 (.inr (List.mem_cons.2 (.inr (List.mem_cons.2 (.inl rfl))))))))) rfl TL.fin) ?_
      refine DH.pure (i:=1) [(5,_,none)] rfl rfl rfl rfl ⟨⟨rfl,by kernel_rfl⟩,trivial⟩ (fun _ ext=>TL.fieldAddr hF rfl rfl TL.fin) ?_
      refine DH.read (i:=2) [(102,_,some 1)] rfl rfl rfl rfl ⟨⟨rfl,rfl,rfl⟩,trivial⟩ (fun ext=>TL.load hF rfl (own_mem (b:=b5) (cs:=(teC e).toArray) (e:=87) (fz:=(0,0)) (List.mem_cons.2 (.inr (List.mem_cons.2 (.inr (List.mem_cons.2 (.inl rfl)))))) rfl) rfl TL.fin) ?_
      refine DH.pure (i:=3) [(11,_,none)] rfl rfl rfl rfl ⟨⟨rfl,by kernel_rfl⟩,trivial⟩ (fun _ ext=>TL.move hF rfl rfl TL.fin) ?_
      refine DH.pure (i:=4) [(104,_,some 3)] rfl rfl rfl rfl ⟨⟨rfl,rfl,rfl⟩,trivial⟩ (fun _ ext=>TL.indexAddr hF rfl rfl ((hlr [lg] (List.mem_cons.2 (.inl rfl))).adi (i:=0) (by rw [List.length_map]; omega)) (by omega) (by dsimp only; omega) rfl TL.fin) ?_
      refine DH.read (i:=5) [(105,_,some 4)] rfl rfl rfl rfl ⟨⟨rfl,rfl,rfl⟩,trivial⟩ (fun ext=>TL.load hF rfl (rowAt0 (hlr _ (List.mem_cons.2 (.inl rfl))) (i:=0) (by omega)) rfl TL.fin) ?_
      refine DH.pure (i:=6) [(11,_,none)] rfl rfl rfl rfl ⟨⟨rfl,by kernel_rfl⟩,trivial⟩ (fun _ ext=>TL.move hF rfl rfl TL.fin) ?_
      refine DH.pure (i:=7) [(107,_,some 6)] rfl rfl rfl rfl ⟨⟨rfl,rfl,rfl⟩,trivial⟩ (fun _ ext=>TL.indexAddr hF rfl rfl ((hlr [lg] (List.mem_cons.2 (.inl rfl))).adi (i:=1) (by rw [List.length_map]; omega)) (by omega) (by dsimp only; omega) rfl TL.fin) ?_
      refine DH.read (i:=8) [(108,_,some 7)] rfl rfl rfl rfl ⟨⟨rfl,rfl,rfl⟩,trivial⟩ (fun ext=>TL.load hF rfl (rowAt0 (hlr _ (List.mem_cons.2 (.inl rfl))) (i:=1) (by omega)) rfl TL.fin) ?_
      refine DH.read (i:=9) [(103,_,some 2),(106,_,some 5),(109,_,some 8)] rfl rfl rfl rfl ⟨⟨rfl,rfl,rfl⟩,⟨rfl,rfl,rfl⟩,⟨rfl,rfl,rfl⟩,trivial⟩ (fun ext=>TL.callV hF (Words5_fn hw0 hw1) rfl rfl TL.fin) ?_
      refine DH.pure (i:=10) [(3,_,none)] rfl rfl rfl rfl ⟨⟨rfl,by kernel_rfl⟩,trivial⟩ (fun _ ext=>TL.move hF rfl rfl TL.fin) ?_
      refine DH.k1 (by kernel_rfl) (by kernel_rfl) (by kernel_rfl) (by kernel_rfl) (HBK.mk (h:=11) [] [(8,_,none),(101,_,some 0)] rfl rfl rfl ⟨⟨rfl,by kernel_rfl⟩,⟨rfl,rfl,rfl⟩,trivial⟩ (by kernel_rfl) (fun ext=>?_))
      refine TL.storeAs hF (scC fa fl.length fc ca cells.length cc na' l'.length nc') (scC fa fl.length fc ca cells.length cc na' l'.length nc') 1 (cs:=[.slice none 0 0,.slice none 0 0,.slice none 0 0]) rfl rfl rfl rfl (by simp [Value.oneCell']) (Nat.le_refl 3) rfl ?_
      refine TL.finKN trivial ?_
      refine DH.pure (i:=12) [(110,_,some 9)] rfl rfl rfl rfl ⟨⟨rfl,rfl,rfl⟩,trivial⟩ (fun _ ext=>TL.assign hF rfl rfl TL.fin) ?_
      refine DH.done [(9,_),(111,_),(110,_),(109,_),(108,_),(107,_),(106,_),(105,_),(104,_),(103,_),(102,_),(101,_)] [_] (by kernel_rfl) (by kernel_rfl) (by kernel_rfl) (by kernel_rfl) rfl rfl ?_
      refine TL.assign hF rfl rfl ?_
      refine TL.nil ?_
      refine TQ.then_n ?_
      refine T.ret ?_
      refine TQ.block_r ?_
      refine TQ.then_r ?_
      have hev:(evalS (runS (fl.map TE.ex) cells f) cells arg e.ex (nds l) ds)=finS (runS (fl.map TE.ex) cells f) cells arg e.op e.n q.2.1 q.1 q.2.2:=by
       rw [ex_eq,evS_f ht63 ht69 (show e.op≠5 by omega)]
       have h:=partsR_other (runS (fl.map TE.ex) cells f) cells arg (show e.op≠5 by omega) (e.l.map TE.ex) (nds l) [] ds
       rw [show (e.l.map TE.ex).foldl (stepR (runS (fl.map TE.ex) cells f) cells arg e.op) (nds l,[],ds)=q from hE] at h
       rw [h]; rfl
      refine TQ.retX [.cell 8 116,.tmp 9,.tmp 10] [_,_,_] (dg'::(hs'++η)) rfl ⟨ResV.agg (scC fa fl.length fc ca cells.length cc na' l'.length nc') rfl rfl (own_list (i:=1) (cs:=(scC fa fl.length fc ca cells.length cc na' l'.length nc')) rfl),rfl,rfl,trivial⟩ rfl (List.Sublist.cons _ (List.Sublist.cons _ (List.Sublist.cons _ (List.Sublist.cons _ (List.Sublist.refl _))))) ?_
      rw [hev,finS,if_neg ht74,if_pos ht99]
      exact ⟨l',na',nc',hs',a',c',dg',rfl,hn',hl',hd',rfl⟩
     ·refine T.seq ?_
      refine T.region ?_
      refine TL.bin hF rfl rfl rfl rfl ?_
      refine TL.assign hF rfl rfl ?_
      refine TL.nil ?_
      refine TQ.then_n ?_
      first | refine T.cond_d rfl (fun ht112=>?_) (fun ht112=>?_) | refine T.cond _ rfl (fun ht112=>?_) (fun ht112=>?_)
      ·refine T.seq ?_
       refine T.seq ?_
       have hp1:e.l.length=2:=by rw [ht112] at hparts; have:partsS 4=2:=rfl; omega
       refine T.draw ?_
       refine DR.stepV [_] rfl [(11,_,none)] rfl rfl ⟨⟨rfl,by kernel_rfl⟩,trivial⟩ (fun ext=>TL.move hF rfl rfl TL.fin) ?_
       refine DR.stepV [_,_] rfl [(114,_,some 0)] rfl rfl ⟨⟨rfl,rfl,rfl⟩,trivial⟩ (fun ext=>TL.indexAddr hF rfl rfl ((hlr [lg] (List.mem_cons.2 (.inl rfl))).adi (i:=0) (by rw [List.length_map]; omega)) (by omega) (by dsimp only; omega) rfl TL.fin) ?_
       refine DR.stepV [_,_,_] rfl [(115,_,some 1)] rfl rfl ⟨⟨rfl,rfl,rfl⟩,trivial⟩ (fun ext=>TL.load hF rfl (rowAt0 (hlr _ (List.mem_cons.2 (.inl rfl))) (i:=0) (by omega)) rfl TL.fin) ?_
       refine DR.stepV [_,_,_,_] rfl [(11,_,none)] rfl rfl ⟨⟨rfl,by kernel_rfl⟩,trivial⟩ (fun ext=>TL.move hF rfl rfl TL.fin) ?_
       refine DR.stepV [_,_,_,_,_] rfl [(117,_,some 3)] rfl rfl ⟨⟨rfl,rfl,rfl⟩,trivial⟩ (fun ext=>TL.indexAddr hF rfl rfl ((hlr [lg] (List.mem_cons.2 (.inl rfl))).adi (i:=1) (by rw [List.length_map]; omega)) (by omega) (by dsimp only; omega) rfl TL.fin) ?_
       refine DR.stepV [_,_,_,_,_,_] rfl [(118,_,some 4)] rfl rfl ⟨⟨rfl,rfl,rfl⟩,trivial⟩ (fun ext=>TL.load hF rfl (rowAt0 (hlr _ (List.mem_cons.2 (.inl rfl))) (i:=1) (by omega)) rfl TL.fin) ?_
       refine DR.done [(119,_),(118,_),(117,_),(116,_),(115,_),(114,_)] [_] mixed (by kernel_rfl) (by kernel_rfl) (by kernel_rfl) rfl rfl ?_
       refine TL.bin hF rfl rfl rfl rfl ?_
       refine TL.nil ?_
       refine TQ.then_n ?_
       first | refine T.cond_d rfl (fun ht120=>?_) (fun ht120=>?_) | refine T.cond _ rfl (fun ht120=>?_) (fun ht120=>?_)
       ·refine T.seq ?_
        refine T.region ?_
        refine TL.loadA hF (scC fa fl.length fc ca cells.length cc na' l'.length nc') rfl rfl (own_listM (b:=b4) (cs:=(scC fa fl.length fc ca cells.length cc na' l'.length nc')) (e:=116) (fz:=(0,0)) (List.mem_cons.2 (.inr (List.mem_cons.2 (.inr (List.mem_cons.2 (.inr (List.mem_cons.2 (.inl rfl))))))))) rfl ?_
        refine TL.move hF rfl rfl ?_
        refine TL.storeAs hF (scC fa fl.length fc ca cells.length cc na' l'.length nc') (scC fa fl.length fc ca cells.length cc na' l'.length nc') 1 (cs:=[.slice none 0 0,.slice none 0 0,.slice none 0 0]) rfl rfl rfl rfl (by simp [Value.oneCell']) (Nat.le_refl 3) rfl ?_
        refine TL.assign hF rfl rfl ?_
        refine TL.assign hF rfl rfl ?_
        refine TL.nil ?_
        refine TQ.then_n ?_
        refine T.ret ?_
        refine TQ.then_r ?_
        refine TQ.block_r ?_
        refine TQ.then_r ?_
        have hev:(evalS (runS (fl.map TE.ex) cells f) cells arg e.ex (nds l) ds)=finS (runS (fl.map TE.ex) cells f) cells arg e.op e.n q.2.1 q.1 q.2.2:=by
         rw [ex_eq,evS_f ht63 ht69 (show e.op≠5 by omega)]
         have h:=partsR_other (runS (fl.map TE.ex) cells f) cells arg (show e.op≠5 by omega) (e.l.map TE.ex) (nds l) [] ds
         rw [show (e.l.map TE.ex).foldl (stepR (runS (fl.map TE.ex) cells f) cells arg e.op) (nds l,[],ds)=q from hE] at h
         rw [h]; rfl
        refine TQ.retX [.cell 8 116,.tmp 9,.tmp 10] [_,_,_] (dg'::(hs'++η)) rfl ⟨ResV.agg (scC fa fl.length fc ca cells.length cc na' l'.length nc') rfl rfl (own_list (i:=1) (cs:=(scC fa fl.length fc ca cells.length cc na' l'.length nc')) rfl),rfl,rfl,trivial⟩ rfl (List.Sublist.cons _ (List.Sublist.cons _ (List.Sublist.cons _ (List.Sublist.cons _ (List.Sublist.refl _))))) ?_
        rw [hev,finS,if_neg ht74,if_neg ht99,if_pos ht112,if_pos ht120]
        exact ⟨l',na',nc',hs',a',c',dg',rfl,hn',hl',hd',rfl⟩
       ·refine T.skip ?_
        refine TQ.then_n ?_
        refine T.seq ?_
        refine T.region ?_
        refine TL.loadA hF (scC fa fl.length fc ca cells.length cc na' l'.length nc') rfl rfl (own_listM (b:=b4) (cs:=(scC fa fl.length fc ca cells.length cc na' l'.length nc')) (e:=116) (fz:=(0,0)) (List.mem_cons.2 (.inr (List.mem_cons.2 (.inr (List.mem_cons.2 (.inr (List.mem_cons.2 (.inl rfl))))))))) rfl ?_
        refine TL.move hF rfl rfl ?_
        refine TL.storeAs hF (scC fa fl.length fc ca cells.length cc na' l'.length nc') (scC fa fl.length fc ca cells.length cc na' l'.length nc') 1 (cs:=[.slice none 0 0,.slice none 0 0,.slice none 0 0]) rfl rfl rfl rfl (by simp [Value.oneCell']) (Nat.le_refl 3) rfl ?_
        refine TL.assign hF rfl rfl ?_
        refine TL.assign hF rfl rfl ?_
        refine TL.nil ?_
        refine TQ.then_n ?_
        refine T.ret ?_
        refine TQ.block_r ?_
        refine TQ.then_r ?_
        have hev:(evalS (runS (fl.map TE.ex) cells f) cells arg e.ex (nds l) ds)=finS (runS (fl.map TE.ex) cells f) cells arg e.op e.n q.2.1 q.1 q.2.2:=by
         rw [ex_eq,evS_f ht63 ht69 (show e.op≠5 by omega)]
         have h:=partsR_other (runS (fl.map TE.ex) cells f) cells arg (show e.op≠5 by omega) (e.l.map TE.ex) (nds l) [] ds
         rw [show (e.l.map TE.ex).foldl (stepR (runS (fl.map TE.ex) cells f) cells arg e.op) (nds l,[],ds)=q from hE] at h
         rw [h]; rfl
        refine TQ.retX [.cell 8 116,.tmp 9,.tmp 10] [_,_,_] (dg'::(hs'++η)) rfl ⟨ResV.agg (scC fa fl.length fc ca cells.length cc na' l'.length nc') rfl rfl (own_list (i:=1) (cs:=(scC fa fl.length fc ca cells.length cc na' l'.length nc')) rfl),rfl,rfl,trivial⟩ rfl (List.Sublist.cons _ (List.Sublist.cons _ (List.Sublist.cons _ (List.Sublist.cons _ (List.Sublist.refl _))))) ?_
        rw [hev,finS,if_neg ht74,if_neg ht99,if_pos ht112,if_neg ht120]
        exact ⟨l',na',nc',hs',a',c',dg',rfl,hn',hl',hd',rfl⟩
      ·refine T.seq ?_
       refine T.region ?_
       refine TL.bin hF rfl rfl rfl rfl ?_
       refine TL.assign hF rfl rfl ?_
       refine TL.nil ?_
       refine TQ.then_n ?_
       first | refine T.cond_d rfl (fun ht125=>?_) (fun ht125=>?_) | refine T.cond _ rfl (fun ht125=>?_) (fun ht125=>?_)
       ·refine T.seq ?_
        have hp1:e.l.length=3:=by rw [ht125] at hparts; have:partsS 5=3:=rfl; omega
        refine T.drawH 11 mixed ?_
        refine DH.read (i:=0) [(4,_,none)] rfl rfl rfl rfl ⟨⟨rfl,by kernel_rfl⟩,trivial⟩ (fun ext=>TL.loadA hF (scC fa fl.length fc ca cells.length cc na' l'.length nc') rfl rfl (own_listM (b:=b4) (cs:=(scC fa fl.length fc ca cells.length cc na' l'.length nc')) (e:=116) (fz:=(0,0)) (List.mem_cons.2 (.inr (List.mem_cons.2 (.inr (List.mem_cons.2 (.inr (List.mem_cons.2 (.inl rfl))))))))) rfl TL.fin) ?_
        refine DH.pure (i:=1) [(11,_,none)] rfl rfl rfl rfl ⟨⟨rfl,by kernel_rfl⟩,trivial⟩ (fun _ ext=>TL.move hF rfl rfl TL.fin) ?_
        refine DH.pure (i:=2) [(128,_,some 1)] rfl rfl rfl rfl ⟨⟨rfl,rfl,rfl⟩,trivial⟩ (fun _ ext=>TL.indexAddr hF rfl rfl ((hlr [lg] (List.mem_cons.2 (.inl rfl))).adi (i:=1) (by rw [List.length_map]; omega)) (by omega) (by dsimp only; omega) rfl TL.fin) ?_
        refine DH.read (i:=3) [(129,_,some 2)] rfl rfl rfl rfl ⟨⟨rfl,rfl,rfl⟩,trivial⟩ (fun ext=>TL.load hF rfl (rowAt0 (hlr _ (List.mem_cons.2 (.inl rfl))) (i:=1) (by omega)) rfl TL.fin) ?_
        refine DH.pure (i:=4) [(11,_,none)] rfl rfl rfl rfl ⟨⟨rfl,by kernel_rfl⟩,trivial⟩ (fun _ ext=>TL.move hF rfl rfl TL.fin) ?_
        refine DH.pure (i:=5) [(131,_,some 4)] rfl rfl rfl rfl ⟨⟨rfl,rfl,rfl⟩,trivial⟩ (fun _ ext=>TL.indexAddr hF rfl rfl ((hlr [lg] (List.mem_cons.2 (.inl rfl))).adi (i:=2) (by rw [List.length_map]; omega)) (by omega) (by dsimp only; omega) rfl TL.fin) ?_
        refine DH.read (i:=6) [(132,_,some 5)] rfl rfl rfl rfl ⟨⟨rfl,rfl,rfl⟩,trivial⟩ (fun ext=>TL.load hF rfl (rowAt0 (hlr _ (List.mem_cons.2 (.inl rfl))) (i:=2) (by omega)) rfl TL.fin) ?_
        refine DH.pure (i:=7) [(130,_,some 3),(133,_,some 6)] rfl rfl rfl rfl ⟨⟨rfl,rfl,rfl⟩,⟨rfl,rfl,rfl⟩,trivial⟩ (fun _ ext=>TL.add hF rfl rfl (by unfold Wd at hw1 hw2; omega) (by unfold Wd at hw1 hw2; omega) rfl TL.fin) ?_
        refine DH.pure (i:=8) [(3,_,none)] rfl rfl rfl rfl ⟨⟨rfl,by kernel_rfl⟩,trivial⟩ (fun _ ext=>TL.move hF rfl rfl TL.fin) ?_
        refine DH.k1 (by kernel_rfl) (by kernel_rfl) (by kernel_rfl) (by kernel_rfl) (HBK.mk (h:=9) [3,6] [(8,_,none),(127,_,some 0)] rfl rfl rfl ⟨⟨rfl,by kernel_rfl⟩,⟨rfl,rfl,rfl⟩,trivial⟩ (by kernel_rfl) (fun ext=>?_))
        refine TL.storeAs hF (scC fa fl.length fc ca cells.length cc na' l'.length nc') (scC fa fl.length fc ca cells.length cc na' l'.length nc') 1 (cs:=[.slice none 0 0,.slice none 0 0,.slice none 0 0]) rfl rfl rfl rfl (by simp [Value.oneCell']) (Nat.le_refl 3) rfl ?_
        refine TL.finKN ⟨⟨_,rfl,_,_,[(129,_,some 2)],rfl,rfl,⟨⟨rfl,rfl,rfl⟩,trivial⟩,fun ext=>TL.load hF rfl (rowAt0 (hlr _ (List.mem_cons.2 (.inl rfl))) (i:=1) (by omega)) rfl TL.fin⟩,⟨_,rfl,_,_,[(132,_,some 5)],rfl,rfl,⟨⟨rfl,rfl,rfl⟩,trivial⟩,fun ext=>TL.load hF rfl (rowAt0 (hlr _ (List.mem_cons.2 (.inl rfl))) (i:=2) (by omega)) rfl TL.fin⟩,trivial⟩ ?_
        refine DH.pure (i:=10) [(134,_,some 7)] rfl rfl rfl rfl ⟨⟨rfl,rfl,rfl⟩,trivial⟩ (fun _ ext=>TL.assign hF rfl rfl TL.fin) ?_
        refine DH.done [(9,_),(135,_),(134,_),(133,_),(132,_),(131,_),(130,_),(129,_),(128,_),(127,_)] [_] (by kernel_rfl) (by kernel_rfl) (by kernel_rfl) (by kernel_rfl) rfl rfl ?_
        refine TL.assign hF rfl rfl ?_
        refine TL.nil ?_
        refine TQ.then_n ?_
        refine T.ret ?_
        refine TQ.block_r ?_
        refine TQ.then_r ?_
        have hev:(evalS (runS (fl.map TE.ex) cells f) cells arg e.ex (nds l) ds)=(q.1,at0 q.2.1 1+at0 q.2.1 2,q.2.2):=by
         obtain ⟨x,y,z,hl3⟩:∃ x y z,e.l=[x,y,z]:=by
          match hq:e.l,hp1 with
          | [x,y,z],_=>exact ⟨x,y,z,rfl⟩
         rw [← hE,ht125,ex_eq,ht125,hl3]
         exact partsR_if (runS (fl.map TE.ex) cells f) cells arg e.n x.ex y.ex z.ex (nds l) ds
        refine TQ.retX [.cell 8 116,.tmp 9,.tmp 10] [_,_,_] (dg'::(hs'++η)) rfl ⟨ResV.agg (scC fa fl.length fc ca cells.length cc na' l'.length nc') rfl rfl (own_list (i:=1) (cs:=(scC fa fl.length fc ca cells.length cc na' l'.length nc')) rfl),rfl,rfl,trivial⟩ rfl (List.Sublist.cons _ (List.Sublist.cons _ (List.Sublist.cons _ (List.Sublist.cons _ (List.Sublist.refl _))))) ?_
        rw [hev]
        exact ⟨l',na',nc',hs',a',c',dg',rfl,hn',hl',hd',rfl⟩
       ·refine T.skip ?_
        refine TQ.block_n ?_
        refine TQ.then_n ?_
        refine T.seq ?_
        refine T.seq ?_
        refine T.region ?_
        have hop6:e.op=6:=by
         have h:=hparts
         unfold partsS at h
         split at h <;> (try split at h) <;> (try split at h) <;> (try split at h) <;> omega
        have hp1:e.l.length=1:=by rw [hop6] at hparts; have:partsS 6=1:=rfl; omega
        refine TL.move hF rfl rfl ?_
        refine TL.indexAddr hF rfl rfl ((hlr [lg] (List.mem_cons.2 (.inl rfl))).adi (i:=0) (by rw [List.length_map]; omega)) (by omega) (by dsimp only; omega) rfl ?_
        refine TL.load hF rfl (rowAt0 (hlr _ (List.mem_cons.2 (.inl rfl))) (i:=0) (by omega)) rfl ?_
        refine TL.move hF rfl rfl ?_
        refine TL.sub hF rfl rfl (by omega) (by omega) rfl ?_
        refine TL.callV hF (Lies_fn (at0 q.2.1 0) 0 (arg - 1)) rfl rfl ?_
        refine TL.not hF rfl rfl ?_
        refine TL.nil ?_
        refine TQ.then_n ?_
        refine T.cond _ rfl (fun ht142=>?_) (fun ht142=>?_)
        ·refine T.seq ?_
         refine T.region ?_
         refine TL.loadA hF (scC fa fl.length fc ca cells.length cc na' l'.length nc') rfl rfl (own_listM (b:=b4) (cs:=(scC fa fl.length fc ca cells.length cc na' l'.length nc')) (e:=116) (fz:=(0,0)) (List.mem_cons.2 (.inr (List.mem_cons.2 (.inr (List.mem_cons.2 (.inr (List.mem_cons.2 (.inl rfl))))))))) rfl ?_
         refine TL.move hF rfl rfl ?_
         refine TL.storeAs hF (scC fa fl.length fc ca cells.length cc na' l'.length nc') (scC fa fl.length fc ca cells.length cc na' l'.length nc') 1 (cs:=[.slice none 0 0,.slice none 0 0,.slice none 0 0]) rfl rfl rfl rfl (by simp [Value.oneCell']) (Nat.le_refl 3) rfl ?_
         refine TL.assign hF rfl rfl ?_
         refine TL.assign hF rfl rfl ?_
         refine TL.nil ?_
         refine TQ.then_n ?_
         refine T.ret ?_
         refine TQ.then_r ?_
         have hev:(evalS (runS (fl.map TE.ex) cells f) cells arg e.ex (nds l) ds)=finS (runS (fl.map TE.ex) cells f) cells arg e.op e.n q.2.1 q.1 q.2.2:=by
          rw [ex_eq,evS_f ht63 ht69 ht125]
          have h:=partsR_other (runS (fl.map TE.ex) cells f) cells arg ht125 (e.l.map TE.ex) (nds l) [] ds
          rw [show (e.l.map TE.ex).foldl (stepR (runS (fl.map TE.ex) cells f) cells arg e.op) (nds l,[],ds)=q from hE] at h
          rw [h]; rfl
         have hno:¬ (0≤at0 q.2.1 0∧at0 q.2.1 0<arg):=by
          intro h
          have h142:(decide (0≤at0 q.2.1 0) && decide (at0 q.2.1 0≤arg - 1))=false:=by
           cases hx:(decide (0≤at0 q.2.1 0) && decide (at0 q.2.1 0≤arg - 1)) <;> rw [hx] at ht142 <;> first | rfl | cases ht142
          rw [← Bool.not_eq_true] at h142
          exact h142 (by simp only [Bool.and_eq_true,decide_eq_true_eq]; omega)
         refine TQ.retX [.cell 8 116,.tmp 9,.tmp 10] [_,_,_] (dg'::(hs'++η)) rfl ⟨ResV.agg (scC fa fl.length fc ca cells.length cc na' l'.length nc') rfl rfl (own_list (i:=1) (cs:=(scC fa fl.length fc ca cells.length cc na' l'.length nc')) rfl),rfl,rfl,trivial⟩ rfl (List.Sublist.cons _ (List.Sublist.cons _ (List.Sublist.cons _ (List.Sublist.cons _ (List.Sublist.refl _))))) ?_
         rw [hev,finS,if_neg ht74,if_neg ht99,if_neg ht112,if_neg hno]
         exact ⟨l',na',nc',hs',a',c',dg',rfl,hn',hl',hd',rfl⟩
        ·refine T.skip ?_
         refine TQ.then_n ?_
         refine T.seq ?_
         refine T.drawH 7 mixed ?_
         refine DH.pure (i:=0) [(5,_,none)] rfl rfl rfl rfl ⟨⟨rfl,by kernel_rfl⟩,trivial⟩ (fun _ ext=>TL.fieldAddr hF rfl rfl TL.fin) ?_
         refine DH.read (i:=1) [(145,_,some 0)] rfl rfl rfl rfl ⟨⟨rfl,rfl,rfl⟩,trivial⟩ (fun ext=>TL.load hF rfl (own_mem (b:=b5) (cs:=(teC e).toArray) (e:=87) (fz:=(0,0)) (by first | exact (List.mem_cons.2 (.inr (List.mem_cons.2 (.inr (List.mem_cons.2 (.inl rfl)))))) | exact (List.mem_cons.2 (.inr (List.mem_cons.2 (.inr (List.mem_cons.2 (.inr (List.mem_cons.2 (.inl rfl))))))))) rfl) rfl TL.fin) ?_
         refine DH.pure (i:=2) [(11,_,none)] rfl rfl rfl rfl ⟨⟨rfl,by kernel_rfl⟩,trivial⟩ (fun _ ext=>TL.move hF rfl rfl TL.fin) ?_
         refine DH.pure (i:=3) [(147,_,some 2)] rfl rfl rfl rfl ⟨⟨rfl,rfl,rfl⟩,trivial⟩ (fun _ ext=>TL.indexAddr hF rfl rfl ((hlr [lg] (List.mem_cons.2 (.inl rfl))).adi (i:=0) (by rw [List.length_map]; omega)) (by omega) (by dsimp only; omega) rfl TL.fin) ?_
         refine DH.read (i:=4) [(148,_,some 3)] rfl rfl rfl rfl ⟨⟨rfl,rfl,rfl⟩,trivial⟩ (fun ext=>TL.load hF rfl (rowAt0 (hlr _ (by simp)) (i:=0) (by omega)) rfl TL.fin) ?_
         refine DH.pure (i:=5) [(146,_,some 1),(149,_,some 4)] rfl rfl rfl rfl ⟨⟨rfl,rfl,rfl⟩,⟨rfl,rfl,rfl⟩,trivial⟩ (fun _ ext=>TL.build hF rfl (r:=kV (e.n,at0 q.2.1 0)) (fun w=>by kernel_rfl) rfl TL.fin) ?_
         refine DH.k1 (by kernel_rfl) (by kernel_rfl) (by kernel_rfl) (by kernel_rfl) (HBK.mk (h:=6) [1,4] [] rfl rfl rfl trivial (by kernel_rfl) (fun ext=>?_))
         refine TL.alloc hF rfl (fun b15=>?_)
         refine TL.finK ⟨⟨_,rfl,_,_,[(145,_,some 0)],rfl,rfl,⟨⟨rfl,rfl,rfl⟩,trivial⟩,fun ext=>TL.load hF rfl (own_mem (b:=b5) (cs:=(teC e).toArray) (e:=87) (fz:=(0,0)) (by first | exact (List.mem_cons.2 (.inr (List.mem_cons.2 (.inr (List.mem_cons.2 (.inl rfl)))))) | exact (List.mem_cons.2 (.inr (List.mem_cons.2 (.inr (List.mem_cons.2 (.inr (List.mem_cons.2 (.inl rfl))))))))) rfl) rfl TL.fin⟩,⟨_,rfl,_,_,[(148,_,some 3)],rfl,rfl,⟨⟨rfl,rfl,rfl⟩,trivial⟩,fun ext=>TL.load hF rfl (rowAt0 (hlr _ (by simp)) (i:=0) (by omega)) rfl TL.fin⟩,trivial⟩ ?_
         refine DH.done [(15,_),(150,_),(149,_),(148,_),(147,_),(146,_),(145,_)] [_] (by kernel_rfl) (by kernel_rfl) (by kernel_rfl) (by kernel_rfl) rfl rfl ?_
         refine TL.storeAs hF (kC (e.n,at0 q.2.1 0)) (kC (e.n,at0 q.2.1 0)) 0 (cs:=[.int .i64 0,.int .i64 0]) rfl rfl rfl rfl (kC1 _) (Nat.le_refl 2) rfl ?_
         refine TL.nil ?_
         refine TQ.then_n ?_
         refine T.seq ?_
         refine T.region ?_
         refine TL.loadA hF (scC fa fl.length fc ca cells.length cc na' l'.length nc') rfl rfl (own_list (i:=4) (cs:=(scC fa fl.length fc ca cells.length cc na' l'.length nc')) rfl) rfl ?_
         refine TL.loadA hF (kC (e.n,at0 q.2.1 0)) rfl rfl (own_list (i:=0) (cs:=kC (e.n,at0 q.2.1 0)) rfl) rfl ?_
         have hnk:KOk (fl.map TE.ex) f (e.n,at0 q.2.1 0):=by
          have h:=(right_iff.1 hr).2.1
          rw [okN6 hop6] at h
          have h142:(decide (0≤at0 q.2.1 0) && decide (at0 q.2.1 0≤arg - 1))=true:=by
           cases hx:(decide (0≤at0 q.2.1 0) && decide (at0 q.2.1 0≤arg - 1)) <;> rw [hx] at ht142 <;> first | rfl | cases ht142
          simp only [Bool.and_eq_true,decide_eq_true_eq] at h h142
          exact ⟨h.1,by rw [List.length_map]; show e.n<_; omega,by show 0≤at0 q.2.1 0; omega,by show at0 q.2.1 0<(f:Int); omega⟩
         have hrf:=run_facts hsc hf hnk hf1
         refine TL.heap (η':=[(b15,Obj.cells (kC (e.n,at0 q.2.1 0)).toArray 25 (0,0))]::lg::[(b8,Obj.cells ([.slice none 0 0,.slice none 0 0,.slice none 0 0]:List Value).toArray 116 (0,0))]::[(b5,Obj.cells (teC e).toArray 87 (0,0))]::[(b4,Obj.cells (scC fa fl.length fc ca cells.length cc na' l'.length nc').toArray 116 (0,0))]::dg'::(hs'++η)) rfl ?_
         refine TL.hperm (hs'++([[(b15,Obj.cells (kC (e.n,at0 q.2.1 0)).toArray 25 (0,0))],lg,[(b8,Obj.cells ([.slice none 0 0,.slice none 0 0,.slice none 0 0]:List Value).toArray 116 (0,0))],[(b5,Obj.cells (teC e).toArray 87 (0,0))],[(b4,Obj.cells (scC fa fl.length fc ca cells.length cc na' l'.length nc').toArray 116 (0,0))],dg']++η)) (perm_cnt fun f=>by simp only [List.map_append,List.map_cons,List.map_nil,List.sum_append,List.sum_cons,List.sum_nil]; omega) ?_
         refine TL.call hF (hC (e.n,at0 q.2.1 0) l' na' nc' hs' ([[(b15,Obj.cells (kC (e.n,at0 q.2.1 0)).toArray 25 (0,0))],lg,[(b8,Obj.cells ([.slice none 0 0,.slice none 0 0,.slice none 0 0]:List Value).toArray 116 (0,0))],[(b5,Obj.cells (teC e).toArray 87 (0,0))],[(b4,Obj.cells (scC fa fl.length fc ca cells.length cc na' l'.length nc').toArray 116 (0,0))],dg']++η) (hcl.up (fun s hs=>List.mem_append_right _ hs)) hnk (by rw [hn']; exact hf1) hl') rfl rfl ?_
         rintro _ _ ⟨l2,na2,nc2,hs2,rfl,hn2,hl2,rfl⟩
         rw [hn'] at hn2 ⊢
         refine TL.hperm ([(b15,Obj.cells (kC (e.n,at0 q.2.1 0)).toArray 25 (0,0))]::lg::[(b8,Obj.cells ([.slice none 0 0,.slice none 0 0,.slice none 0 0]:List Value).toArray 116 (0,0))]::[(b5,Obj.cells (teC e).toArray 87 (0,0))]::[(b4,Obj.cells (scC fa fl.length fc ca cells.length cc na' l'.length nc').toArray 116 (0,0))]::dg'::(hs2++η)) (perm_cnt fun f=>by simp only [List.map_append,List.map_cons,List.map_nil,List.sum_append,List.sum_cons,List.sum_nil]; omega) ?_
         refine TL.move hF rfl rfl ?_
         refine TL.extract hF rfl rfl rfl ?_
         refine TL.extract hF rfl rfl rfl ?_
         refine TL.storeAs hF (scC fa fl.length fc ca cells.length cc na2 l2.length nc2) (scC fa fl.length fc ca cells.length cc na2 l2.length nc2) 4 (cs:=(scC fa fl.length fc ca cells.length cc na' l'.length nc')) rfl rfl rfl rfl (by simp [Value.oneCell']) (Nat.le_refl 3) rfl ?_
         refine TL.assign hF rfl rfl ?_
         refine TL.nil ?_
         refine TQ.then_n ?_
         refine T.seq ?_
         refine T.drawH 9 mixed ?_
         refine DH.read (i:=0) [(4,_,none)] rfl rfl rfl rfl ⟨⟨rfl,by kernel_rfl⟩,trivial⟩ (fun ext=>TL.loadA hF (scC fa fl.length fc ca cells.length cc na2 l2.length nc2) rfl rfl (own_listM (b:=b4) (cs:=(scC fa fl.length fc ca cells.length cc na2 l2.length nc2)) (e:=116) (fz:=(0,0)) (by first | exact (List.mem_cons.2 (.inr (List.mem_cons.2 (.inr (List.mem_cons.2 (.inr (List.mem_cons.2 (.inr (List.mem_cons.2 (.inl rfl)))))))))) | exact (List.mem_cons.2 (.inr (List.mem_cons.2 (.inr (List.mem_cons.2 (.inr (List.mem_cons.2 (.inr (List.mem_cons.2 (.inr (List.mem_cons.2 (.inl rfl)))))))))))))) rfl TL.fin) ?_
         refine DH.pure (i:=1) [(16,_,none)] rfl rfl rfl rfl ⟨⟨rfl,by kernel_rfl⟩,trivial⟩ (fun _ ext=>TL.move hF rfl rfl TL.fin) ?_
         refine DH.pure (i:=2) [(3,_,none)] rfl rfl rfl rfl ⟨⟨rfl,by kernel_rfl⟩,trivial⟩ (fun _ ext=>TL.move hF rfl rfl TL.fin) ?_
         refine DH.read (i:=3) [(15,_,none)] rfl rfl rfl rfl ⟨⟨rfl,by kernel_rfl⟩,trivial⟩ (fun ext=>TL.loadA hF (kC (e.n,at0 q.2.1 0)) rfl rfl (own_listM (b:=b15) (cs:=kC (e.n,at0 q.2.1 0)) (e:=25) (fz:=(0,0)) (by first | exact (List.mem_cons.2 (.inl rfl)) | exact (List.mem_cons.2 (.inr (List.mem_cons.2 (.inl rfl)))))) rfl TL.fin) ?_
         refine DH.pure (i:=4) [(16,_,none)] rfl rfl rfl rfl ⟨⟨rfl,by kernel_rfl⟩,trivial⟩ (fun _ ext=>TL.move hF rfl rfl TL.fin) ?_
         refine DH.pure (i:=5) [(160,_,some 3),(161,_,some 4)] rfl rfl rfl rfl ⟨⟨rfl,rfl,rfl⟩,⟨rfl,rfl,rfl⟩,trivial⟩ (fun _ ext=>TL.build hF rfl (r:=.agg (dpC (gotD (e.n,at0 q.2.1 0) (runS (fl.map TE.ex) cells f q.1 (e.n,at0 q.2.1 0)).2)).toArray) (fun w=>by kernel_rfl) rfl TL.fin) ?_
         refine DH.k1 (by kernel_rfl) (by kernel_rfl) (by kernel_rfl) (by kernel_rfl) (HBK.mk (h:=6) [0] [(162,_,some 5)] rfl rfl rfl ⟨⟨rfl,rfl,rfl⟩,trivial⟩ (by kernel_rfl) (fun ext=>?_))
         refine TL.buildSlice hF rfl (cs:=(dpC (gotD (e.n,at0 q.2.1 0) (runS (fl.map TE.ex) cells f q.1 (e.n,at0 q.2.1 0)).2)).toArray) (e:=56) (fun w=>by kernel_rfl) rfl (fun bq=>?_)
         refine TL.finK ⟨⟨_,rfl,_,_,[(4,_,none)],rfl,rfl,⟨⟨rfl,by kernel_rfl⟩,trivial⟩,fun ext=>TL.loadA hF (scC fa fl.length fc ca cells.length cc na2 l2.length nc2) rfl rfl (own_listM (b:=b4) (cs:=(scC fa fl.length fc ca cells.length cc na2 l2.length nc2)) (e:=116) (fz:=(0,0)) (by first | exact (List.mem_cons.2 (.inr (List.mem_cons.2 (.inr (List.mem_cons.2 (.inr (List.mem_cons.2 (.inr (List.mem_cons.2 (.inl rfl)))))))))) | exact (List.mem_cons.2 (.inr (List.mem_cons.2 (.inr (List.mem_cons.2 (.inr (List.mem_cons.2 (.inr (List.mem_cons.2 (.inr (List.mem_cons.2 (.inl rfl)))))))))))))) rfl TL.fin⟩,trivial⟩ ?_
         refine DH.k1 (by kernel_rfl) (by kernel_rfl) (by kernel_rfl) (by kernel_rfl) (HBK.mk (h:=7) [0] [(159,_,some 2),(163,_,some 6)] rfl rfl rfl ⟨⟨rfl,rfl,rfl⟩,⟨rfl,rfl,rfl⟩,trivial⟩ (by kernel_rfl) (fun ext=>?_))
         refine TL.append hF 6 rfl rfl rfl hd' (row_own (cs:=dpC (gotD (e.n,at0 q.2.1 0) (runS (fl.map TE.ex) cells f q.1 (e.n,at0 q.2.1 0)).2)) (e:=56) (b:=bq) (List.mem_cons.2 (.inl rfl))).src rfl rfl (dpC1 _) (by omega) (by omega) rfl (fun pa pc pg ph=>?_)
         refine TL.finK ⟨⟨_,rfl,_,_,[(4,_,none)],rfl,rfl,⟨⟨rfl,by kernel_rfl⟩,trivial⟩,fun ext=>TL.loadA hF (scC fa fl.length fc ca cells.length cc na2 l2.length nc2) rfl rfl (own_listM (b:=b4) (cs:=(scC fa fl.length fc ca cells.length cc na2 l2.length nc2)) (e:=116) (fz:=(0,0)) (by first | exact (List.mem_cons.2 (.inr (List.mem_cons.2 (.inr (List.mem_cons.2 (.inr (List.mem_cons.2 (.inr (List.mem_cons.2 (.inl rfl)))))))))) | exact (List.mem_cons.2 (.inr (List.mem_cons.2 (.inr (List.mem_cons.2 (.inr (List.mem_cons.2 (.inr (List.mem_cons.2 (.inr (List.mem_cons.2 (.inl rfl)))))))))))))) rfl TL.fin⟩,trivial⟩ ?_
         refine DH.k1 (by kernel_rfl) (by kernel_rfl) (by kernel_rfl) (by kernel_rfl) (HBK.mk (h:=8) [] [(8,_,none),(157,_,some 0)] rfl rfl rfl ⟨⟨rfl,by kernel_rfl⟩,⟨rfl,rfl,rfl⟩,trivial⟩ (by kernel_rfl) (fun ext=>?_))
         refine TL.storeAs hF (scC fa fl.length fc ca cells.length cc na2 l2.length nc2) (scC fa fl.length fc ca cells.length cc na2 l2.length nc2) 3 (cs:=[.slice none 0 0,.slice none 0 0,.slice none 0 0]) rfl rfl rfl rfl (by simp [Value.oneCell']) (Nat.le_refl 3) rfl ?_
         refine TL.finKN trivial ?_
         refine DH.done [(164,_),(163,_),(162,_),(161,_),(160,_),(159,_),(158,_),(157,_)] [_,_] (by kernel_rfl) (by kernel_rfl) (by kernel_rfl) (by kernel_rfl) rfl rfl ?_
         refine TL.assign hF rfl rfl ?_
         refine TL.assign hF rfl rfl ?_
         refine TL.nil ?_
         refine TQ.then_n ?_
         refine T.ret ?_
         have hev:(evalS (runS (fl.map TE.ex) cells f) cells arg e.ex (nds l) ds)=finS (runS (fl.map TE.ex) cells f) cells arg e.op e.n q.2.1 q.1 q.2.2:=by
          rw [ex_eq,evS_f ht63 ht69 ht125]
          have h:=partsR_other (runS (fl.map TE.ex) cells f) cells arg ht125 (e.l.map TE.ex) (nds l) [] ds
          rw [show (e.l.map TE.ex).foldl (stepR (runS (fl.map TE.ex) cells f) cells arg e.op) (nds l,[],ds)=q from hE] at h
          rw [h]; rfl
         have hyes:0≤at0 q.2.1 0∧at0 q.2.1 0<arg:=by
          have h142:(decide (0≤at0 q.2.1 0) && decide (at0 q.2.1 0≤arg - 1))=true:=by
           cases hx:(decide (0≤at0 q.2.1 0) && decide (at0 q.2.1 0≤arg - 1)) <;> rw [hx] at ht142 <;> first | rfl | cases ht142
          simp only [Bool.and_eq_true,decide_eq_true_eq] at h142
          omega
         have hlq:q.2.2.length+1=(q.2.2++[(gotD (e.n,at0 q.2.1 0) (runS (fl.map TE.ex) cells f q.1 (e.n,at0 q.2.1 0)).2)]).length:=by simp
         have hcq:q.2.2.flatMap dpC++dpC (gotD (e.n,at0 q.2.1 0) (runS (fl.map TE.ex) cells f q.1 (e.n,at0 q.2.1 0)).2)=(q.2.2++[(gotD (e.n,at0 q.2.1 0) (runS (fl.map TE.ex) cells f q.1 (e.n,at0 q.2.1 0)).2)]).flatMap dpC:=by simp
         rw [hcq,hlq] at ph
         refine TQ.retX [.cell 8 116,.tmp 9,.tmp 10] [_,_,_] (pg::(hs2++η)) rfl ⟨ResV.agg (scC fa fl.length fc ca cells.length cc na2 l2.length nc2) rfl rfl (own_list (i:=3) (cs:=(scC fa fl.length fc ca cells.length cc na2 l2.length nc2)) rfl),rfl,rfl,trivial⟩ rfl (List.Sublist.cons _ (List.Sublist.cons _ (List.Sublist.cons _ (List.Sublist.cons _ (List.Sublist.cons _ (List.Sublist.cons _ (List.Sublist.refl _))))))) ?_
         rw [hev,finS,if_neg ht74,if_neg ht99,if_neg ht112,if_pos hyes]
         exact ⟨l2,na2,nc2,hs2,pa,pc,pg,by rw [← hlq]; rfl,hn2,hl2,ph,rfl⟩
theorem eval_allR {fa ca : Option Addr} {fl : List TE} {fc cc : Nat} {cells : List Int} (hsc : Scn (fl.map TE.ex) cells) {f : Nat} (hf : f ≤ 201) (hC : CallR S w0 fa ca fl fc cc cells f) : ∀ M : Nat, ∀ x : TE, sizeE x.ex < M → ∀ (arg : Int) (l : List NH) (na : Option Addr) (nc : Nat) (hs η : Heap) (ds : List Dp) (a : Option Addr) (c : Nat) (dg : Seg), Row S w0 η ca (ints cells) → Tr S w0 [] x → rightE fl.length x.ex = true → 0 ≤ arg → arg ≤ f → arg ≤ 200 → Good (fl.map TE.ex) cells (nds l) → NL S w0 hs na l → OSl 56 5 (.slice a ds.length c) ds.length (ds.flatMap dpC) dg → ds.length + sizeE x.ex ≤ 100 → Rt Tryz.prog 72 [scV fa ca fl fc cc cells na l.length nc, teV x, .int .i64 arg, .slice a ds.length c].toArray S w0 (dg :: (hs ++ η)) (fun v η' => ∃ (l' : List NH) (na' : Option Addr) (nc' : Nat) (hs' : Heap) (a' : Option Addr) (c' : Nat) (dg' : Seg),
   v = .tuple #[scV fa ca fl fc cc cells na' l'.length nc',.int .i64 (evalS (runS (fl.map TE.ex) cells f) cells arg x.ex (nds l) ds).2.1,.slice a' (evalS (runS (fl.map TE.ex) cells f) cells arg x.ex (nds l) ds).2.2.length c'] ∧
   nds l'=(evalS (runS (fl.map TE.ex) cells f) cells arg x.ex (nds l) ds).1∧NL S w0 hs' na' l'∧OSl 56 5 (.slice a' (evalS (runS (fl.map TE.ex) cells f) cells arg x.ex (nds l) ds).2.2.length c') (evalS (runS (fl.map TE.ex) cells f) cells arg x.ex (nds l) ds).2.2.length ((evalS (runS (fl.map TE.ex) cells f) cells arg x.ex (nds l) ds).2.2.flatMap dpC) dg'∧η'=dg'::(hs'++η))
 | 0,x,h=>by omega
 | M+1,x,h=>fun arg l na nc hs η ds a c dg hcl hT hr h0 harg h200 hg hl hd hs100=>eval_stepR hsc hf hC M (eval_allR hsc hf hC M) x (by omega) arg l na nc hs η ds a c dg hcl hT hr h0 harg h200 hg hl hd hs100
theorem callsR {fa ca:Option Addr} {fl:List TE} {fc cc:Nat} {cells:List Int} (hfs:Fs S w0 [] fa fl) (hfl:fl.length<9223372036854775808) (hsc:Scn (fl.map TE.ex) cells):∀ f:Nat,f≤201→CallR S w0 fa ca fl fc cc cells f
 | 0,_=>fun k l na nc hs η _ hk _ _=>by
  obtain ⟨_,_,h1,h2⟩:=hk
  exfalso
  have:k.2<((0:Nat):Int):=h2
  omega
 | f+1,hf=>fun k l na nc hs η hη hk hg hl=>call_step hfs hfl hsc (by omega) (fun e arg l na nc hs η ds a c dg hcl hT hr h0 harg h200 hg hl hd hs100=>eval_allR hsc (by omega) (callsR hfs hfl hsc f (by omega)) (sizeE e.ex+1) e (by omega) arg l na nc hs η ds a c dg hcl hT hr h0 harg h200 hg hl hd hs100) k l na nc hs η hη hk hg hl
end Go.Proofs.YtdiacobmhkmljaaGreatDoor
/- The reference: Trace, Run, Needs, Distance. -/
namespace Go.Proofs.YtdiacobmhkmljaaGreatDoor
open Go.Sl
variable {S:Nat→Prop} {w0:World} {η:Heap}
theorem mem_srtH {z:NH}:∀ {l:List NH},z∈srtH l↔z∈l:=by
 have key:∀ (l acc:List NH),z∈l.foldl (fun L x=>insH x L) acc↔z∈acc∨z∈l:=by
  intro l
  induction l with
  | nil=>intro acc; simp
  | cons x r ih =>
   intro acc
   rw [List.foldl_cons,ih,mem_insH,List.mem_cons]
   constructor
   ·rintro ((h | h) | h)
    ·exact .inr (.inl h)
    ·exact .inl h
    ·exact .inr (.inr h)
   ·rintro (h | h | h)
    ·exact .inl (.inr h)
    ·exact .inl (.inl h)
    ·exact .inr h
 intro l
 exact (key l []).trans (by simp)
theorem srtH_len (l:List NH):(srtH l).length=l.length:=by
 have key:∀ (l acc:List NH),(l.foldl (fun L x=>insH x L) acc).length=acc.length+l.length:=by
  intro l
  induction l with
  | nil=>intro acc; rfl
  | cons x r ih=>intro acc; rw [List.foldl_cons,ih,insH_len]; simp; omega
 have:=key l []
 simpa [srtH] using this
theorem trace_len {F:List Ex} {cells:List Int} {top:Key} (hs:Scn F cells) (hk:KOk F (201:Nat) top):(traceS F cells top).length≤1608:=by
 obtain ⟨l,h,hl⟩:∃ l:List NH,nds l=(callsS F cells top).1∧True:=⟨(callsS F cells top).1.map fun x=>⟨x,none,0⟩,by simp [nds,Function.comp_def],trivial⟩
 have h1:=good_len hs (run_facts hs (Nat.le_refl 201) hk (Good.nil F cells)).1
 unfold traceS
 rw [← h,← srtH_nds,nds_len,srtH_len,← nds_len,h]
 exact h1
set_option maxHeartbeats 2000000 in
theorem TraceG_fn {fa ca : Option Addr} {fl : List TE} {fc cc : Nat} {cells : List Int} {top : Key} (hf : Fs S w0 [] fa fl) (hfl : fl.length < 9223372036854775808) (hc : Row S w0 η ca (ints cells)) (hsc : Scn (fl.map TE.ex) cells) (hk : KOk (fl.map TE.ex) (201 : Nat) top) :
  Rt Tryz.prog 29 [.slice fa fl.length fc,.slice ca cells.length cc,kV top].toArray S w0 η (fun v η'=>∃ a cap l segs,v = .slice a l.length cap∧nds l=traceS (fl.map TE.ex) cells top∧NL S w0 segs a l∧l.length≤cap∧η'=segs++η):=by
 have hF:=open_wide
 refine Rt.of (fn:=Tryz.f29) Tryz.func29 rfl rfl ?_
 refine T.seq ?_
 refine T.region ?_
 refine TL.box hF rfl rfl (fun b5=>?_)
 refine TL.assign hF rfl rfl ?_
 refine TL.nil ?_
 refine TQ.then_n ?_
 refine T.seq ?_
 refine T.region ?_
 refine TL.move hF rfl rfl ?_
 refine TL.move hF rfl rfl ?_
 refine TL.build hF rfl (r:=scV fa ca fl fc cc cells none 0 0) (fun w=>by kernel_rfl) rfl ?_
 refine TL.loadA hF (kC top) rfl rfl (own_list (i:=0) (cs:=kC top) rfl) rfl ?_
 refine TL.call hF (callsR hf hfl hsc 201 (Nat.le_refl _) top [] none 0 [] ([(b5,Obj.cells (kC top).toArray 25 (0,0))]::η) (hc.up upc) hk (Good.nil _ _) ⟨Row.none,by simp⟩) rfl rfl ?_
 rintro _ _ ⟨l',na',nc',hs',rfl,hn',hl',rfl⟩
 have hlen':l'.length≤1608:=by rw [← nds_len,hn']; exact good_len hsc (run_facts hsc (Nat.le_refl 201) hk (Good.nil _ _)).1
 refine TL.move hF rfl rfl ?_
 refine TL.extract hF rfl rfl rfl ?_
 refine TL.extract hF rfl rfl rfl ?_
 refine TL.alloc hF rfl (fun b7=>?_)
 refine TL.storeAs hF (scC fa fl.length fc ca cells.length cc na' l'.length nc') (scC fa fl.length fc ca cells.length cc na' l'.length nc') 0 (cs:=[.slice none 0 0,.slice none 0 0,.slice none 0 0]) rfl rfl rfl rfl (by simp [Value.oneCell']) (Nat.le_refl 3) rfl ?_
 refine TL.assign hF rfl rfl ?_
 refine TL.nil ?_
 refine TQ.then_n ?_
 refine T.seq ?_
 refine T.region ?_
 refine TL.fieldAddr hF rfl rfl ?_
 refine TL.load hF rfl (own_mem (b:=b7) (cs:=(scC fa fl.length fc ca cells.length cc na' l'.length nc').toArray) (e:=116) (fz:=(0,0)) (List.mem_cons.2 (.inl rfl)) rfl) rfl ?_
 refine TL.call hF (ordered_fn (hl'.up (by intro s hs; simp [hs])) (by omega)) rfl rfl ?_
 rintro _ _ ⟨oa,oc,og,rfl,ho,rfl⟩
 refine TL.assign hF rfl rfl ?_
 refine TL.nil ?_
 refine TQ.then_n ?_
 refine T.ret ?_
 refine TQ.hsub (og::(hs'++η)) (List.Sublist.cons_cons _ (List.Sublist.cons _ (List.Sublist.append (List.Sublist.refl _) (List.sublist_cons_self _ _)))) ?_
 refine TQ.rets [6] _ rfl rfl rfl ?_
 refine ⟨oa,oc,srtH l',og::hs',by rw [srtH_len]; rfl,?_,⟨ho.row (by simp),fun x hx=>?_⟩,by rw [srtH_len]; exact osl_cap ho,rfl⟩
 ·rw [srtH_nds,hn']; rfl
 ·have h9:=hl'.item x (mem_srtH.1 hx)
  exact ⟨h9.row.up (by intro s hs; simp [hs]),h9.cap,h9.len⟩
theorem Trace_fn {fa ca:Option Addr} {fl:List TE} {fc cc:Nat} {cells:List Int} {top:Key} (hf:Fs S w0 [] fa fl) (hfl:fl.length<9223372036854775808) (hc:Row S w0 [] ca (ints cells)) (hsc:Scn (fl.map TE.ex) cells) (hk:KOk (fl.map TE.ex) (201:Nat) top):Rt Tryz.prog 29 [.slice fa fl.length fc,.slice ca cells.length cc,kV top].toArray S w0 η (fun v η'=>∃ a cap l segs,v = .slice a l.length cap∧nds l=traceS (fl.map TE.ex) cells top∧NL S w0 segs a l∧l.length≤cap∧η'=segs++η):=TraceG_fn hf hfl hc.ro hsc hk
set_option maxHeartbeats 2000000 in
theorem RunR_fn {fa ca : Option Addr} {fl : List TE} {fc cc : Nat} {cells : List Int} {top : Key} (hf : Fs S w0 [] fa fl) (hfl : fl.length < 9223372036854775808) (hc : Row S w0 [] ca (ints cells)) (hcl : cells.length < 9223372036854775808) :
  Rt Tryz.prog 9 [.slice fa fl.length fc,.slice ca cells.length cc,kV top].toArray S w0 η (fun v η'=>∃ a cap l segs,v = .tuple #[.slice a l.length cap,.int .i64 (runE (fl.map TE.ex) cells top).2]∧nds l=(runE (fl.map TE.ex) cells top).1∧NL S w0 segs a l∧l.length≤cap∧η'=segs++η):=by
 have hF:=open_wide
 refine Rt.of (fn:=Tryz.f9) Tryz.func9 rfl rfl ?_
 refine T.seq ?_
 refine T.region ?_
 refine TL.box hF rfl rfl (fun b5=>?_)
 refine TL.assign hF rfl rfl ?_
 refine TL.assign hF rfl rfl ?_
 refine TL.nil ?_
 refine TQ.then_n ?_
 refine T.seq ?_
 refine T.seq ?_
 refine T.region ?_
 refine TL.move hF rfl rfl ?_
 refine TL.move hF rfl rfl ?_
 refine TL.loadA hF (kC top) rfl rfl (own_list (i:=0) (cs:=kC top) rfl) rfl ?_
 refine TL.callV hF (asked_fn hf hfl hc hcl) rfl rfl ?_
 refine TL.assign hF rfl rfl ?_
 refine TL.nil ?_
 refine TQ.then_n ?_
 refine T.seq ?_
 refine T.region ?_
 refine TL.move hF rfl rfl ?_
 refine TL.bin hF rfl rfl rfl rfl ?_
 refine TL.nil ?_
 refine TQ.then_n ?_
 refine T.cond_d rfl (fun ht14=>?_) (fun ht14=>?_)
 ·refine T.seq ?_
  refine T.region ?_
  refine TL.move hF rfl rfl ?_
  refine TL.assign hF rfl rfl ?_
  refine TL.assign hF rfl rfl ?_
  refine TL.nil ?_
  refine TQ.then_n ?_
  refine T.ret ?_
  refine TQ.then_r ?_
  refine TQ.pop ?_
  refine TQ.rets [6,7] _ rfl rfl rfl ?_
  have e:runE (fl.map TE.ex) cells top=([],askedS (fl.map TE.ex) cells top):=by unfold runE; rw [if_neg ht14]
  rw [e]
  exact ⟨none,0,[],[],rfl,rfl,NL.none,Nat.le_refl _,rfl⟩
 ·refine T.skip ?_
  refine TQ.then_n ?_
  refine T.seq ?_
  refine T.region ?_
  refine TL.move hF rfl rfl ?_
  refine TL.move hF rfl rfl ?_
  refine TL.loadA hF (kC top) rfl rfl (own_list (i:=0) (cs:=kC top) rfl) rfl ?_
  have hask:askedS (fl.map TE.ex) cells top=0:=Classical.not_not.1 ht14
  obtain ⟨hsc,hk⟩:=scn_of hask
  refine TL.call hF (Trace_fn hf hfl hc hsc hk) rfl rfl ?_
  rintro _ _ ⟨oa,oc,l',segs,rfl,hn',hl',hcap,rfl⟩
  refine TL.assign hF rfl rfl ?_
  refine TL.assign hF rfl rfl ?_
  refine TL.nil ?_
  refine TQ.then_n ?_
  refine T.ret ?_
  refine TQ.hsub (segs++η) (List.Sublist.append (List.Sublist.refl _) (List.sublist_cons_self _ _)) ?_
  refine TQ.rets [6,7] _ rfl rfl rfl ?_
  have e:runE (fl.map TE.ex) cells top=(traceS (fl.map TE.ex) cells top,0):=by unfold runE; rw [if_pos hask]
  rw [e]
  exact ⟨oa,oc,l',segs,rfl,hn',hl',hcap,rfl⟩
set_option maxHeartbeats 2000000 in
theorem DistanceR_fn {fa ca da : Option Addr} {fl : List TE} {fc cc dc : Nat} {cells others : List Int} {top : Key} (hf : Fs S w0 [] fa fl) (hfl : fl.length < 9223372036854775808) (hc : Row S w0 [] ca (ints cells)) (hcl : cells.length < 9223372036854775808) (hd : Row S w0 [] da (ints others)) (hdl : others.length < 9223372036854775808) :
  Rt Tryz.prog 20 [.slice fa fl.length fc,.slice ca cells.length cc,.slice da others.length dc,kV top].toArray S w0 η (fun v η'=>∃ segs,v = .tuple #[.int .i64 (distS (fl.map TE.ex) cells others top).1,.int .i64 (distS (fl.map TE.ex) cells others top).2]∧η'=segs++η):=by
 have hF:=open_wide
 refine Rt.of (fn:=Tryz.f20) Tryz.func20 rfl rfl ?_
 refine T.seq ?_
 refine T.region ?_
 refine TL.box hF rfl rfl (fun b7=>?_)
 refine TL.assign hF rfl rfl ?_
 refine TL.assign hF rfl rfl ?_
 refine TL.nil ?_
 refine TQ.then_n ?_
 refine T.seq ?_
 refine T.seq ?_
 refine T.region ?_
 refine TL.move hF rfl rfl ?_
 refine TL.move hF rfl rfl ?_
 refine TL.heap (η':=[(b7,Obj.cells (kC top).toArray 25 (0,0))]::η) rfl ?_
 refine TL.loadA hF (kC top) rfl rfl (own_list (i:=0) (cs:=kC top) rfl) rfl ?_
 refine TL.callV hF (asked_fn hf hfl hc hcl) rfl rfl ?_
 refine TL.assign hF rfl rfl ?_
 refine TL.nil ?_
 refine TQ.then_n ?_
 refine T.seq ?_
 refine T.region ?_
 refine TL.move hF rfl rfl ?_
 refine TL.bin hF rfl rfl rfl rfl ?_
 refine TL.nil ?_
 refine TQ.then_n ?_
 refine T.cond_d rfl (fun ht18=>?_) (fun ht18=>?_)
 ·refine T.seq ?_
  refine T.region ?_
  refine TL.move hF rfl rfl ?_
  refine TL.assign hF rfl rfl ?_
  refine TL.assign hF rfl rfl ?_
  refine TL.nil ?_
  refine TQ.then_n ?_
  refine T.ret ?_
  refine TQ.then_r ?_
  refine TQ.pop ?_
  refine TQ.rets [8,9] _ rfl rfl rfl ?_
  have e:distS (fl.map TE.ex) cells others top=(0,askedS (fl.map TE.ex) cells top):=by unfold distS; rw [if_neg ht18]
  rw [e]
  exact ⟨[],rfl,rfl⟩
 ·refine T.skip ?_
  refine TQ.then_n ?_
  refine T.seq ?_
  refine T.seq ?_
  refine T.region ?_
  refine TL.move hF rfl rfl ?_
  refine TL.move hF rfl rfl ?_
  refine TL.loadA hF (kC top) rfl rfl (own_list (i:=0) (cs:=kC top) rfl) rfl ?_
  refine TL.callV hF (asked_fn hf hfl hd hdl) rfl rfl ?_
  refine TL.assign hF rfl rfl ?_
  refine TL.nil ?_
  refine TQ.then_n ?_
  refine T.seq ?_
  refine T.region ?_
  refine TL.move hF rfl rfl ?_
  refine TL.bin hF rfl rfl rfl rfl ?_
  refine TL.move hF rfl rfl ?_
  refine TL.join [_,_,_,_,_,_] 32 (.bool (decide (askedS (fl.map TE.ex) others top≠0) || decide ((others.length:Int)≠cells.length))) rfl ?_ ?_
  ·refine TL.gd (t:=26) rfl (fun g5_26=>?_) (fun g5_26=>?_)
   ·refine TL.off hF rfl rfl rfl (decide_eq_true g5_26) rfl ?_
    refine TL.off hF rfl rfl rfl (decide_eq_true g5_26) rfl ?_
    refine TL.off hF rfl rfl rfl (decide_eq_true g5_26) rfl ?_
    refine TL.off hF rfl rfl rfl (decide_eq_true g5_26) rfl ?_
    refine TL.off hF rfl rfl rfl (decide_eq_true g5_26) rfl ?_
    refine TL.pickT hF rfl (decide_eq_true g5_26) rfl rfl ?_
    refine TL.finJ ⟨?_,by repeat (first | exact trivial | refine ⟨rfl,?_⟩)⟩
    exact congrArg (fun z=>some (Value.bool z)) (by first | (rw [(decide_eq_true g5_26)]; rfl) | (rw [(decide_eq_true g5_26)]; simp; done) | (simp [*]; done))
   ·refine TL.on rfl rfl rfl (decide_eq_false g5_26) ?_
    refine TL.move hF rfl rfl ?_
    refine TL.on rfl rfl rfl (decide_eq_false g5_26) ?_
    refine TL.len hF rfl rfl ?_
    refine TL.on rfl rfl rfl (decide_eq_false g5_26) ?_
    refine TL.move hF rfl rfl ?_
    refine TL.on rfl rfl rfl (decide_eq_false g5_26) ?_
    refine TL.len hF rfl rfl ?_
    refine TL.on rfl rfl rfl (decide_eq_false g5_26) ?_
    refine TL.bin hF rfl rfl rfl rfl ?_
    refine TL.pickF hF rfl (decide_eq_false g5_26) rfl rfl ?_
    refine TL.finJ ⟨?_,by repeat (first | exact trivial | refine ⟨rfl,?_⟩)⟩
    exact congrArg (fun z=>some (Value.bool z)) (by first | (rw [(decide_eq_false g5_26)]; rfl) | (rw [(decide_eq_false g5_26)]; simp; done) | (simp [*]; done))
  ·refine TL.nil ?_
   refine TQ.then_n ?_
   refine T.cond _ rfl (fun ht32=>?_) (fun ht32=>?_)
   ·refine T.seq ?_
    refine T.region ?_
    refine TL.assign hF rfl rfl ?_
    refine TL.assign hF rfl rfl ?_
    refine TL.nil ?_
    refine TQ.then_n ?_
    refine T.ret ?_
    refine TQ.then_r ?_
    refine TQ.pop ?_
    refine TQ.rets [8,9] _ rfl rfl rfl ?_
    have hask:askedS (fl.map TE.ex) cells top=0:=Classical.not_not.1 ht18
    have e:distS (fl.map TE.ex) cells others top=(0,2):=by
     unfold distS
     rw [if_pos hask,if_neg]
     rintro ⟨h1,h2⟩
     rw [Bool.or_eq_true,decide_eq_true_eq,decide_eq_true_eq] at ht32
     omega
    rw [e]
    exact ⟨[],rfl,rfl⟩
   ·refine T.skip ?_
    refine TQ.then_n ?_
    refine T.seq ?_
    have hask:askedS (fl.map TE.ex) cells top=0:=Classical.not_not.1 ht18
    have h32:askedS (fl.map TE.ex) others top=0∧others.length=cells.length:=by
     rw [← Bool.not_eq_true,Bool.or_eq_true,decide_eq_true_eq,decide_eq_true_eq] at ht32
     omega
    obtain ⟨hsc,hk⟩:=scn_of hask
    obtain ⟨hsd,_⟩:=scn_of h32.1
    have hnd:∀ (l l2:List NH),nds l=traceS (fl.map TE.ex) cells top→nds l2=traceS (fl.map TE.ex) others top→l.length<1000000∧l2.length<1000000:=fun l l2 h1 h2=>by
     have h3:=trace_len hsc hk
     have h4:=trace_len hsd hk
     rw [← h1,nds_len] at h3
     rw [← h2,nds_len] at h4
     omega
    refine T.drawH 11 mixed ?_
    refine DH.pure (i:=0) [(0,_,none)] rfl rfl rfl rfl ⟨⟨rfl,by kernel_rfl⟩,trivial⟩ (fun _ ext=>TL.move hF rfl rfl TL.fin) ?_
    refine DH.pure (i:=1) [(1,_,none)] rfl rfl rfl rfl ⟨⟨rfl,by kernel_rfl⟩,trivial⟩ (fun _ ext=>TL.move hF rfl rfl TL.fin) ?_
    refine DH.read (i:=2) [(7,_,none)] rfl rfl rfl rfl ⟨⟨rfl,by kernel_rfl⟩,trivial⟩ (fun ext=>TL.loadA hF (kC top) rfl rfl (own_listM (b:=b7) (cs:=kC top) (e:=25) (fz:=(0,0)) (by simp)) rfl TL.fin) ?_
    refine DH.pure (i:=4) [(0,_,none)] rfl rfl rfl rfl ⟨⟨rfl,by kernel_rfl⟩,trivial⟩ (fun _ ext=>TL.move hF rfl rfl TL.fin) ?_
    refine DH.pure (i:=5) [(2,_,none)] rfl rfl rfl rfl ⟨⟨rfl,by kernel_rfl⟩,trivial⟩ (fun _ ext=>TL.move hF rfl rfl TL.fin) ?_
    refine DH.read (i:=6) [(7,_,none)] rfl rfl rfl rfl ⟨⟨rfl,by kernel_rfl⟩,trivial⟩ (fun ext=>TL.loadA hF (kC top) rfl rfl (own_listM (b:=b7) (cs:=kC top) (e:=25) (fz:=(0,0)) (by simp)) rfl TL.fin) ?_
    refine DH.read (i:=8) [(7,_,none)] rfl rfl rfl rfl ⟨⟨rfl,by kernel_rfl⟩,trivial⟩ (fun ext=>TL.loadA hF (kC top) rfl rfl (own_listM (b:=b7) (cs:=kC top) (e:=25) (fz:=(0,0)) (by simp)) rfl TL.fin) ?_
    refine DH.k2 (by kernel_rfl) (by kernel_rfl) (by kernel_rfl) (by kernel_rfl) (HBK.mk (h:=3) [6,8] [(33,_,some 0),(34,_,some 1),(35,_,some 2)] rfl rfl rfl ⟨⟨rfl,rfl,rfl⟩,⟨rfl,rfl,rfl⟩,⟨rfl,rfl,rfl⟩,trivial⟩ (by kernel_rfl) (fun ext=>?_)) (HBK.mk (h:=10) [2,6,8] [] rfl rfl rfl trivial (by kernel_rfl) (fun ext=>?_))
    ·refine TL.call hF (Trace_fn hf hfl hc hsc hk) rfl rfl ?_
     rintro _ _ ⟨oa,oc,l1,segs,rfl,hn1,hl1,hcap1,rfl⟩
     refine TL.finK ⟨⟨_,rfl,_,_,[(7,_,none)],rfl,rfl,⟨⟨rfl,by kernel_rfl⟩,trivial⟩,fun ext=>TL.loadA hF (kC top) rfl rfl (own_listM (b:=b7) (cs:=kC top) (e:=25) (fz:=(0,0)) (by simp)) rfl TL.fin⟩,⟨_,rfl,_,_,[(7,_,none)],rfl,rfl,⟨⟨rfl,by kernel_rfl⟩,trivial⟩,fun ext=>TL.loadA hF (kC top) rfl rfl (own_listM (b:=b7) (cs:=kC top) (e:=25) (fz:=(0,0)) (by simp)) rfl TL.fin⟩,trivial⟩ ?_
     refine DH.k2 (by kernel_rfl) (by kernel_rfl) (by kernel_rfl) (by kernel_rfl) (HBK.mk (h:=7) [8] [(37,_,some 4),(38,_,some 5),(39,_,some 6)] rfl rfl rfl ⟨⟨rfl,rfl,rfl⟩,⟨rfl,rfl,rfl⟩,⟨rfl,rfl,rfl⟩,trivial⟩ (by kernel_rfl) (fun ext=>?_)) (HBK.mk (h:=10) [6,8] [] rfl rfl rfl trivial (by kernel_rfl) (fun ext=>?_))
     ·refine TL.call hF (Trace_fn hf hfl hd hsd hk) rfl rfl ?_
      rintro _ _ ⟨pa,pc,l2,segs2,rfl,hn2,hl2,hcap2,rfl⟩
      refine TL.finK ⟨⟨_,rfl,_,_,[(7,_,none)],rfl,rfl,⟨⟨rfl,by kernel_rfl⟩,trivial⟩,fun ext=>TL.loadA hF (kC top) rfl rfl (own_listM (b:=b7) (cs:=kC top) (e:=25) (fz:=(0,0)) (by simp)) rfl TL.fin⟩,trivial⟩ ?_
      refine DH.k2 (by kernel_rfl) (by kernel_rfl) (by kernel_rfl) (by kernel_rfl) (HBK.mk (h:=9) [] [(36,_,some 3),(40,_,some 7),(41,_,some 8)] rfl rfl rfl ⟨⟨rfl,rfl,rfl⟩,⟨rfl,rfl,rfl⟩,⟨rfl,rfl,rfl⟩,trivial⟩ (by kernel_rfl) (fun ext=>?_)) (HBK.mk (h:=10) [8] [] rfl rfl rfl trivial (by kernel_rfl) (fun ext=>?_))
      ·refine TL.call hF (againstR_fn (hl1.up (by intro s hs; simp [hs])) (hl2.up (by intro s hs; simp [hs])) (hnd l1 l2 hn1 hn2).1 (hnd l1 l2 hn1 hn2).2) rfl rfl ?_
       rintro _ _ ⟨x,segs3,rfl,hx,hrm,rfl⟩
       refine TL.finK trivial ?_
       refine DH.heavy 10 [] (by kernel_rfl) (by kernel_rfl) (by kernel_rfl) (by kernel_rfl) rfl rfl rfl rfl trivial (by kernel_rfl) (fun ext=>?_)
       refine TL.alloc hF rfl (fun b12=>?_)
       refine TL.heap (η':=[(b12,Obj.cells ([.int .i64 0,.slice none 0 0,.slice none 0 0,.slice none 0 0,.slice none 0 0]:List Value).toArray 45 (0,0))]::_) rfl ?_
       refine TL.finD ?_
       refine DH.done [(12,_),(42,_),(40,_),(36,_),(41,_),(39,_),(38,_),(37,_),(35,_),(34,_),(33,_)] [_] (by kernel_rfl) (by kernel_rfl) (by kernel_rfl) (by kernel_rfl) rfl rfl ?_
       refine TL.hperm ([(b12,Obj.cells ([.int .i64 0,.slice none 0 0,.slice none 0 0,.slice none 0 0,.slice none 0 0]:List Value).toArray 45 (0,0))]::(segs3++(segs2++(segs++([(b7,Obj.cells (kC top).toArray 25 (0,0))]::η))))) (perm_cnt fun f=>by simp only [List.map_append,List.map_cons,List.sum_append,List.sum_cons]; try omega) ?_
       refine TL.storeAs hF (rhC x) (rhC x) 0 (cs:=[.int .i64 0,.slice none 0 0,.slice none 0 0,.slice none 0 0,.slice none 0 0]) rfl rfl rfl rfl (rhC1 x) (Nat.le_refl 5) rfl ?_
       have hb1:x.r.new.length≤1000000∧x.r.again.length≤1000000∧x.r.dropped.length≤1000000:=by
        have h9:=hnd l1 l2 hn1 hn2
        rw [hx]
        unfold againstS keysN
        simp only [List.length_map]
        have q1:=List.length_filter_le (fun x=>!hasN (nds l1) x.key) (nds l2)
        have q2:=List.length_filter_le (againB (nds l1)) (nds l2)
        have q3:=List.length_filter_le (fun x=>!hasN (nds l2) x.key) (nds l1)
        rw [nds_len] at q1 q2 q3
        omega
       refine TL.nil ?_
       refine TQ.then_n ?_
       refine T.seq ?_
       refine T.region ?_
       refine TL.fieldAddr hF rfl rfl ?_
       refine TL.load hF rfl (own_mem (b:=b12) (cs:=(rhC x).toArray) (e:=45) (fz:=(0,0)) (List.mem_cons.2 (.inl rfl)) rfl) rfl ?_
       refine TL.len hF rfl rfl ?_
       refine TL.fieldAddr hF rfl rfl ?_
       refine TL.load hF rfl (own_mem (b:=b12) (cs:=(rhC x).toArray) (e:=45) (fz:=(0,0)) (List.mem_cons.2 (.inl rfl)) rfl) rfl ?_
       refine TL.len hF rfl rfl ?_
       refine TL.add hF rfl rfl (by omega) (by omega) rfl ?_
       refine TL.fieldAddr hF rfl rfl ?_
       refine TL.load hF rfl (own_mem (b:=b12) (cs:=(rhC x).toArray) (e:=45) (fz:=(0,0)) (List.mem_cons.2 (.inl rfl)) rfl) rfl ?_
       refine TL.len hF rfl rfl ?_
       refine TL.add hF rfl rfl (by omega) (by omega) rfl ?_
       refine TL.assign hF rfl rfl ?_
       refine TL.assign hF rfl rfl ?_
       refine TL.nil ?_
       refine TQ.then_n ?_
       refine T.ret ?_
       refine TQ.rets [8,9] _ rfl rfl rfl ?_
       have e:distS (fl.map TE.ex) cells others top=(apart x.r,0):=by
        unfold distS
        rw [if_pos hask,if_pos h32,hx,hn1,hn2]
        rfl
       rw [e]
       exact ⟨[[(b12,Obj.cells (rhC x:List Value).toArray 45 (0,0))]]++(segs3++(segs2++(segs++[[(b7,Obj.cells (kC top).toArray 25 (0,0))]]))),rfl,by simp⟩
      ·refine TL.alloc hF rfl (fun b12=>?_)
       refine TL.heap (η':=[(b12,Obj.cells ([.int .i64 0,.slice none 0 0,.slice none 0 0,.slice none 0 0,.slice none 0 0]:List Value).toArray 45 (0,0))]::_) rfl ?_
       refine TL.finK ⟨⟨_,rfl,_,_,[(7,_,none)],rfl,rfl,⟨⟨rfl,by kernel_rfl⟩,trivial⟩,fun ext=>TL.loadA hF (kC top) rfl rfl (own_listM (b:=b7) (cs:=kC top) (e:=25) (fz:=(0,0)) (by simp)) rfl TL.fin⟩,trivial⟩ ?_
       refine DH.heavy 9 [(36,_,some 3),(40,_,some 7),(41,_,some 8)] (by kernel_rfl) (by kernel_rfl) (by kernel_rfl) (by kernel_rfl) rfl rfl rfl rfl ⟨⟨rfl,rfl,rfl⟩,⟨rfl,rfl,rfl⟩,⟨rfl,rfl,rfl⟩,trivial⟩ (by kernel_rfl) (fun ext=>?_)
       refine TL.call hF (againstR_fn (hl1.up (by intro s hs; simp [hs])) (hl2.up (by intro s hs; simp [hs])) (hnd l1 l2 hn1 hn2).1 (hnd l1 l2 hn1 hn2).2) rfl rfl ?_
       rintro _ _ ⟨x,segs3,rfl,hx,hrm,rfl⟩
       refine TL.finD ?_
       refine DH.done [(42,_),(12,_),(40,_),(36,_),(41,_),(39,_),(38,_),(37,_),(35,_),(34,_),(33,_)] [_] (by kernel_rfl) (by kernel_rfl) (by kernel_rfl) (by kernel_rfl) rfl rfl ?_
       refine TL.hperm ([(b12,Obj.cells ([.int .i64 0,.slice none 0 0,.slice none 0 0,.slice none 0 0,.slice none 0 0]:List Value).toArray 45 (0,0))]::(segs3++(segs2++(segs++([(b7,Obj.cells (kC top).toArray 25 (0,0))]::η))))) (perm_cnt fun f=>by simp only [List.map_append,List.map_cons,List.sum_append,List.sum_cons]; try omega) ?_
       refine TL.storeAs hF (rhC x) (rhC x) 0 (cs:=[.int .i64 0,.slice none 0 0,.slice none 0 0,.slice none 0 0,.slice none 0 0]) rfl rfl rfl rfl (rhC1 x) (Nat.le_refl 5) rfl ?_
       have hb1:x.r.new.length≤1000000∧x.r.again.length≤1000000∧x.r.dropped.length≤1000000:=by
        have h9:=hnd l1 l2 hn1 hn2
        rw [hx]
        unfold againstS keysN
        simp only [List.length_map]
        have q1:=List.length_filter_le (fun x=>!hasN (nds l1) x.key) (nds l2)
        have q2:=List.length_filter_le (againB (nds l1)) (nds l2)
        have q3:=List.length_filter_le (fun x=>!hasN (nds l2) x.key) (nds l1)
        rw [nds_len] at q1 q2 q3
        omega
       refine TL.nil ?_
       refine TQ.then_n ?_
       refine T.seq ?_
       refine T.region ?_
       refine TL.fieldAddr hF rfl rfl ?_
       refine TL.load hF rfl (own_mem (b:=b12) (cs:=(rhC x).toArray) (e:=45) (fz:=(0,0)) (List.mem_cons.2 (.inl rfl)) rfl) rfl ?_
       refine TL.len hF rfl rfl ?_
       refine TL.fieldAddr hF rfl rfl ?_
       refine TL.load hF rfl (own_mem (b:=b12) (cs:=(rhC x).toArray) (e:=45) (fz:=(0,0)) (List.mem_cons.2 (.inl rfl)) rfl) rfl ?_
       refine TL.len hF rfl rfl ?_
       refine TL.add hF rfl rfl (by omega) (by omega) rfl ?_
       refine TL.fieldAddr hF rfl rfl ?_
       refine TL.load hF rfl (own_mem (b:=b12) (cs:=(rhC x).toArray) (e:=45) (fz:=(0,0)) (List.mem_cons.2 (.inl rfl)) rfl) rfl ?_
       refine TL.len hF rfl rfl ?_
       refine TL.add hF rfl rfl (by omega) (by omega) rfl ?_
       refine TL.assign hF rfl rfl ?_
       refine TL.assign hF rfl rfl ?_
       refine TL.nil ?_
       refine TQ.then_n ?_
       refine T.ret ?_
       refine TQ.rets [8,9] _ rfl rfl rfl ?_
       have e:distS (fl.map TE.ex) cells others top=(apart x.r,0):=by
        unfold distS
        rw [if_pos hask,if_pos h32,hx,hn1,hn2]
        rfl
       rw [e]
       exact ⟨[[(b12,Obj.cells (rhC x:List Value).toArray 45 (0,0))]]++(segs3++(segs2++(segs++[[(b7,Obj.cells (kC top).toArray 25 (0,0))]]))),rfl,by simp⟩
     ·refine TL.alloc hF rfl (fun b12=>?_)
      refine TL.heap (η':=[(b12,Obj.cells ([.int .i64 0,.slice none 0 0,.slice none 0 0,.slice none 0 0,.slice none 0 0]:List Value).toArray 45 (0,0))]::_) rfl ?_
      refine TL.finK ⟨⟨_,rfl,_,_,[(7,_,none)],rfl,rfl,⟨⟨rfl,by kernel_rfl⟩,trivial⟩,fun ext=>TL.loadA hF (kC top) rfl rfl (own_listM (b:=b7) (cs:=kC top) (e:=25) (fz:=(0,0)) (by simp)) rfl TL.fin⟩,⟨_,rfl,_,_,[(7,_,none)],rfl,rfl,⟨⟨rfl,by kernel_rfl⟩,trivial⟩,fun ext=>TL.loadA hF (kC top) rfl rfl (own_listM (b:=b7) (cs:=kC top) (e:=25) (fz:=(0,0)) (by simp)) rfl TL.fin⟩,trivial⟩ ?_
      refine DH.k1 (by kernel_rfl) (by kernel_rfl) (by kernel_rfl) (by kernel_rfl) (HBK.mk (h:=7) [8] [(37,_,some 4),(38,_,some 5),(39,_,some 6)] rfl rfl rfl ⟨⟨rfl,rfl,rfl⟩,⟨rfl,rfl,rfl⟩,⟨rfl,rfl,rfl⟩,trivial⟩ (by kernel_rfl) (fun ext=>?_))
      refine TL.call hF (Trace_fn hf hfl hd hsd hk) rfl rfl ?_
      rintro _ _ ⟨pa,pc,l2,segs2,rfl,hn2,hl2,hcap2,rfl⟩
      refine TL.finK ⟨⟨_,rfl,_,_,[(7,_,none)],rfl,rfl,⟨⟨rfl,by kernel_rfl⟩,trivial⟩,fun ext=>TL.loadA hF (kC top) rfl rfl (own_listM (b:=b7) (cs:=kC top) (e:=25) (fz:=(0,0)) (by simp)) rfl TL.fin⟩,trivial⟩ ?_
      refine DH.heavy 9 [(36,_,some 3),(40,_,some 7),(41,_,some 8)] (by kernel_rfl) (by kernel_rfl) (by kernel_rfl) (by kernel_rfl) rfl rfl rfl rfl ⟨⟨rfl,rfl,rfl⟩,⟨rfl,rfl,rfl⟩,⟨rfl,rfl,rfl⟩,trivial⟩ (by kernel_rfl) (fun ext=>?_)
      refine TL.call hF (againstR_fn (hl1.up (by intro s hs; simp [hs])) (hl2.up (by intro s hs; simp [hs])) (hnd l1 l2 hn1 hn2).1 (hnd l1 l2 hn1 hn2).2) rfl rfl ?_
      rintro _ _ ⟨x,segs3,rfl,hx,hrm,rfl⟩
      refine TL.finD ?_
      refine DH.done [(42,_),(40,_),(12,_),(36,_),(41,_),(39,_),(38,_),(37,_),(35,_),(34,_),(33,_)] [_] (by kernel_rfl) (by kernel_rfl) (by kernel_rfl) (by kernel_rfl) rfl rfl ?_
      refine TL.hperm ([(b12,Obj.cells ([.int .i64 0,.slice none 0 0,.slice none 0 0,.slice none 0 0,.slice none 0 0]:List Value).toArray 45 (0,0))]::(segs3++(segs2++(segs++([(b7,Obj.cells (kC top).toArray 25 (0,0))]::η))))) (perm_cnt fun f=>by simp only [List.map_append,List.map_cons,List.sum_append,List.sum_cons]; try omega) ?_
      refine TL.storeAs hF (rhC x) (rhC x) 0 (cs:=[.int .i64 0,.slice none 0 0,.slice none 0 0,.slice none 0 0,.slice none 0 0]) rfl rfl rfl rfl (rhC1 x) (Nat.le_refl 5) rfl ?_
      have hb1:x.r.new.length≤1000000∧x.r.again.length≤1000000∧x.r.dropped.length≤1000000:=by
       have h9:=hnd l1 l2 hn1 hn2
       rw [hx]
       unfold againstS keysN
       simp only [List.length_map]
       have q1:=List.length_filter_le (fun x=>!hasN (nds l1) x.key) (nds l2)
       have q2:=List.length_filter_le (againB (nds l1)) (nds l2)
       have q3:=List.length_filter_le (fun x=>!hasN (nds l2) x.key) (nds l1)
       rw [nds_len] at q1 q2 q3
       omega
      refine TL.nil ?_
      refine TQ.then_n ?_
      refine T.seq ?_
      refine T.region ?_
      refine TL.fieldAddr hF rfl rfl ?_
      refine TL.load hF rfl (own_mem (b:=b12) (cs:=(rhC x).toArray) (e:=45) (fz:=(0,0)) (List.mem_cons.2 (.inl rfl)) rfl) rfl ?_
      refine TL.len hF rfl rfl ?_
      refine TL.fieldAddr hF rfl rfl ?_
      refine TL.load hF rfl (own_mem (b:=b12) (cs:=(rhC x).toArray) (e:=45) (fz:=(0,0)) (List.mem_cons.2 (.inl rfl)) rfl) rfl ?_
      refine TL.len hF rfl rfl ?_
      refine TL.add hF rfl rfl (by omega) (by omega) rfl ?_
      refine TL.fieldAddr hF rfl rfl ?_
      refine TL.load hF rfl (own_mem (b:=b12) (cs:=(rhC x).toArray) (e:=45) (fz:=(0,0)) (List.mem_cons.2 (.inl rfl)) rfl) rfl ?_
      refine TL.len hF rfl rfl ?_
      refine TL.add hF rfl rfl (by omega) (by omega) rfl ?_
      refine TL.assign hF rfl rfl ?_
      refine TL.assign hF rfl rfl ?_
      refine TL.nil ?_
      refine TQ.then_n ?_
      refine T.ret ?_
      refine TQ.rets [8,9] _ rfl rfl rfl ?_
      have e:distS (fl.map TE.ex) cells others top=(apart x.r,0):=by
       unfold distS
       rw [if_pos hask,if_pos h32,hx,hn1,hn2]
       rfl
      rw [e]
      exact ⟨[[(b12,Obj.cells (rhC x:List Value).toArray 45 (0,0))]]++(segs3++(segs2++(segs++[[(b7,Obj.cells (kC top).toArray 25 (0,0))]]))),rfl,by simp⟩
    ·refine TL.alloc hF rfl (fun b12=>?_)
     refine TL.heap (η':=[(b12,Obj.cells ([.int .i64 0,.slice none 0 0,.slice none 0 0,.slice none 0 0,.slice none 0 0]:List Value).toArray 45 (0,0))]::_) rfl ?_
     refine TL.finK ⟨⟨_,rfl,_,_,[(7,_,none)],rfl,rfl,⟨⟨rfl,by kernel_rfl⟩,trivial⟩,fun ext=>TL.loadA hF (kC top) rfl rfl (own_listM (b:=b7) (cs:=kC top) (e:=25) (fz:=(0,0)) (by simp)) rfl TL.fin⟩,⟨_,rfl,_,_,[(7,_,none)],rfl,rfl,⟨⟨rfl,by kernel_rfl⟩,trivial⟩,fun ext=>TL.loadA hF (kC top) rfl rfl (own_listM (b:=b7) (cs:=kC top) (e:=25) (fz:=(0,0)) (by simp)) rfl TL.fin⟩,⟨_,rfl,_,_,[(7,_,none)],rfl,rfl,⟨⟨rfl,by kernel_rfl⟩,trivial⟩,fun ext=>TL.loadA hF (kC top) rfl rfl (own_listM (b:=b7) (cs:=kC top) (e:=25) (fz:=(0,0)) (by simp)) rfl TL.fin⟩,trivial⟩ ?_
     refine DH.k1 (by kernel_rfl) (by kernel_rfl) (by kernel_rfl) (by kernel_rfl) (HBK.mk (h:=3) [6,8] [(33,_,some 0),(34,_,some 1),(35,_,some 2)] rfl rfl rfl ⟨⟨rfl,rfl,rfl⟩,⟨rfl,rfl,rfl⟩,⟨rfl,rfl,rfl⟩,trivial⟩ (by kernel_rfl) (fun ext=>?_))
     refine TL.call hF (Trace_fn hf hfl hc hsc hk) rfl rfl ?_
     rintro _ _ ⟨oa,oc,l1,segs,rfl,hn1,hl1,hcap1,rfl⟩
     refine TL.finK ⟨⟨_,rfl,_,_,[(7,_,none)],rfl,rfl,⟨⟨rfl,by kernel_rfl⟩,trivial⟩,fun ext=>TL.loadA hF (kC top) rfl rfl (own_listM (b:=b7) (cs:=kC top) (e:=25) (fz:=(0,0)) (by simp)) rfl TL.fin⟩,⟨_,rfl,_,_,[(7,_,none)],rfl,rfl,⟨⟨rfl,by kernel_rfl⟩,trivial⟩,fun ext=>TL.loadA hF (kC top) rfl rfl (own_listM (b:=b7) (cs:=kC top) (e:=25) (fz:=(0,0)) (by simp)) rfl TL.fin⟩,trivial⟩ ?_
     refine DH.k1 (by kernel_rfl) (by kernel_rfl) (by kernel_rfl) (by kernel_rfl) (HBK.mk (h:=7) [8] [(37,_,some 4),(38,_,some 5),(39,_,some 6)] rfl rfl rfl ⟨⟨rfl,rfl,rfl⟩,⟨rfl,rfl,rfl⟩,⟨rfl,rfl,rfl⟩,trivial⟩ (by kernel_rfl) (fun ext=>?_))
     refine TL.call hF (Trace_fn hf hfl hd hsd hk) rfl rfl ?_
     rintro _ _ ⟨pa,pc,l2,segs2,rfl,hn2,hl2,hcap2,rfl⟩
     refine TL.finK ⟨⟨_,rfl,_,_,[(7,_,none)],rfl,rfl,⟨⟨rfl,by kernel_rfl⟩,trivial⟩,fun ext=>TL.loadA hF (kC top) rfl rfl (own_listM (b:=b7) (cs:=kC top) (e:=25) (fz:=(0,0)) (by simp)) rfl TL.fin⟩,trivial⟩ ?_
     refine DH.heavy 9 [(36,_,some 3),(40,_,some 7),(41,_,some 8)] (by kernel_rfl) (by kernel_rfl) (by kernel_rfl) (by kernel_rfl) rfl rfl rfl rfl ⟨⟨rfl,rfl,rfl⟩,⟨rfl,rfl,rfl⟩,⟨rfl,rfl,rfl⟩,trivial⟩ (by kernel_rfl) (fun ext=>?_)
     refine TL.call hF (againstR_fn (hl1.up (by intro s hs; simp [hs])) (hl2.up (by intro s hs; simp [hs])) (hnd l1 l2 hn1 hn2).1 (hnd l1 l2 hn1 hn2).2) rfl rfl ?_
     rintro _ _ ⟨x,segs3,rfl,hx,hrm,rfl⟩
     refine TL.finD ?_
     refine DH.done [(42,_),(40,_),(36,_),(12,_),(41,_),(39,_),(38,_),(37,_),(35,_),(34,_),(33,_)] [_] (by kernel_rfl) (by kernel_rfl) (by kernel_rfl) (by kernel_rfl) rfl rfl ?_
     refine TL.hperm ([(b12,Obj.cells ([.int .i64 0,.slice none 0 0,.slice none 0 0,.slice none 0 0,.slice none 0 0]:List Value).toArray 45 (0,0))]::(segs3++(segs2++(segs++([(b7,Obj.cells (kC top).toArray 25 (0,0))]::η))))) (perm_cnt fun f=>by simp only [List.map_append,List.map_cons,List.sum_append,List.sum_cons]; try omega) ?_
     refine TL.storeAs hF (rhC x) (rhC x) 0 (cs:=[.int .i64 0,.slice none 0 0,.slice none 0 0,.slice none 0 0,.slice none 0 0]) rfl rfl rfl rfl (rhC1 x) (Nat.le_refl 5) rfl ?_
     have hb1:x.r.new.length≤1000000∧x.r.again.length≤1000000∧x.r.dropped.length≤1000000:=by
      have h9:=hnd l1 l2 hn1 hn2
      rw [hx]
      unfold againstS keysN
      simp only [List.length_map]
      have q1:=List.length_filter_le (fun x=>!hasN (nds l1) x.key) (nds l2)
      have q2:=List.length_filter_le (againB (nds l1)) (nds l2)
      have q3:=List.length_filter_le (fun x=>!hasN (nds l2) x.key) (nds l1)
      rw [nds_len] at q1 q2 q3
      omega
     refine TL.nil ?_
     refine TQ.then_n ?_
     refine T.seq ?_
     refine T.region ?_
     refine TL.fieldAddr hF rfl rfl ?_
     refine TL.load hF rfl (own_mem (b:=b12) (cs:=(rhC x).toArray) (e:=45) (fz:=(0,0)) (List.mem_cons.2 (.inl rfl)) rfl) rfl ?_
     refine TL.len hF rfl rfl ?_
     refine TL.fieldAddr hF rfl rfl ?_
     refine TL.load hF rfl (own_mem (b:=b12) (cs:=(rhC x).toArray) (e:=45) (fz:=(0,0)) (List.mem_cons.2 (.inl rfl)) rfl) rfl ?_
     refine TL.len hF rfl rfl ?_
     refine TL.add hF rfl rfl (by omega) (by omega) rfl ?_
     refine TL.fieldAddr hF rfl rfl ?_
     refine TL.load hF rfl (own_mem (b:=b12) (cs:=(rhC x).toArray) (e:=45) (fz:=(0,0)) (List.mem_cons.2 (.inl rfl)) rfl) rfl ?_
     refine TL.len hF rfl rfl ?_
     refine TL.add hF rfl rfl (by omega) (by omega) rfl ?_
     refine TL.assign hF rfl rfl ?_
     refine TL.assign hF rfl rfl ?_
     refine TL.nil ?_
     refine TQ.then_n ?_
     refine T.ret ?_
     refine TQ.rets [8,9] _ rfl rfl rfl ?_
     have e:distS (fl.map TE.ex) cells others top=(apart x.r,0):=by
      unfold distS
      rw [if_pos hask,if_pos h32,hx,hn1,hn2]
      rfl
     rw [e]
     exact ⟨[[(b12,Obj.cells (rhC x:List Value).toArray 45 (0,0))]]++(segs3++(segs2++(segs++[[(b7,Obj.cells (kC top).toArray 25 (0,0))]]))),rfl,by simp⟩
theorem up_len {l:List Int} {n:Nat} (h:UpI l) (hr:∀ x∈l,0≤x∧x<(n:Int)):l.length≤n:=by
 have h1:l.Nodup:=h.imp fun {a b} hab e=>by omega
 have:=sub_len h1 (m:=(List.range n).map fun (i:Nat)=>(i:Int)) fun x hx=>List.mem_map.2 ⟨x.toNat,List.mem_range.2 (by have:=hr x hx; omega),by have:=hr x hx; omega⟩
 simpa using this
def cellsD (ds:List Dp):List Int:=(ds.filter fun d=>!d.call).map (·.cell)
theorem cellsOf_eq (l:List Nd):cellsOf l=l.flatMap fun x=>cellsD x.deps:=rfl
theorem cellsD_snoc {ds:List Dp} {k:Nat} (h:k<ds.length):cellsD (ds.take (k+1))=if ds[k].call then cellsD (ds.take k) else cellsD (ds.take k)++[ds[k].cell]:=by
 rw [List.take_succ_eq_append_getElem h]
 unfold cellsD
 rw [List.filter_append]
 cases hc:ds[k].call <;> simp [hc]
structure NR where
 i:Nat
 L:List Int
 a:Option Addr
 c:Nat
 g:Seg
theorem tra_rng {F:List Ex} {cells:List Int} {top:Key} (hs:Scn F cells) (hk:KOk F (201:Nat) top):∀ x∈traceS F cells top,∀ d∈x.deps,d.call=false→0≤d.cell∧d.cell<100:=by
 obtain ⟨k1,k2,k3,k4⟩:=hk
 have ht:=(calls_ok (cells:=cells) hs.right k1 k2 k3 (by omega)).2.2
 intro x hx d hd hc
 obtain ⟨a1,a2,_,_,_,a6,_⟩:=ht.ok x hx
 rw [a6] at hd
 obtain ⟨_,w,hw,_⟩:=(asks hs.right a1 a2 d hd).2 hc
 have h1:=cellAt_lt hs.c1 w
 have h2:=hs.c2
 omega
theorem ris_len {l:List Int} (h:∀ x∈l,0≤x∧x<100):(l.foldl risI []).length≤100∧UpI (l.foldl risI []):=by
 obtain ⟨h1,h2⟩:=ris_go (l:=l) (acc:=[]) (by simp [UpI])
 exact ⟨up_len (n:=100) h1 fun x hx=>h x (by simpa using (h2 x).1 hx),h1⟩
theorem RisingO_fn {a : Option Addr} {xs : List Int} {c : Nat} {og : Seg} {n : Int} (ho : OSl 3 1 (.slice a xs.length c) xs.length (ints xs) og) (hl : xs.length < 1000000) (hu : UpI xs) :
  Rt Tryz.prog 34 [.slice a xs.length c,.int .i64 n].toArray S w0 (og::η) (fun v η'=>∃ oa oc og2,v = .slice oa (risI xs n).length oc∧OSl 3 1 (.slice oa (risI xs n).length oc) (risI xs n).length (ints (risI xs n)) og2∧η'=og::og2::η):=by
 refine Rt.frame [og] rfl fun S' w1 hz hb=>?_
 refine (Rising_fn (S:=S') (w0:=w1) (η:=η) ((ho.row (η:=[og]) (by simp)).frz hz) hl hu).mono ?_
 rintro _ _ ⟨oa,oc,og2,L,rfl,rfl,h2,rfl⟩
 exact ⟨oa,oc,og2,rfl,h2,rfl⟩
set_option maxHeartbeats 2000000 in
theorem NeedsR_fn {fa ca : Option Addr} {fl : List TE} {fc cc : Nat} {cells : List Int} {top : Key} (hf : Fs S w0 [] fa fl) (hfl : fl.length < 9223372036854775808) (hc : Row S w0 [] ca (ints cells)) (hcl : cells.length < 9223372036854775808) :
  Rt Tryz.prog 11 [.slice fa fl.length fc,.slice ca cells.length cc,kV top].toArray S w0 η (fun v η'=>∃ a cap segs,v = .tuple #[.slice a (needsS (fl.map TE.ex) cells top).1.length cap,.int .i64 (needsS (fl.map TE.ex) cells top).2]∧Row S w0 segs a (ints (needsS (fl.map TE.ex) cells top).1)∧η'=segs++η):=by
 have hF:=open_wide
 refine Rt.of (fn:=Tryz.f11) Tryz.func11 rfl rfl ?_
 refine T.seq ?_
 refine T.region ?_
 refine TL.box hF rfl rfl (fun b5=>?_)
 refine TL.assign hF rfl rfl ?_
 refine TL.assign hF rfl rfl ?_
 refine TL.nil ?_
 refine TQ.then_n ?_
 refine T.seq ?_
 refine T.region ?_
 refine TL.move hF rfl rfl ?_
 refine TL.move hF rfl rfl ?_
 refine TL.heap (η':=[(b5,Obj.cells (kC top).toArray 25 (0,0))]::η) rfl ?_
 refine TL.loadA hF (kC top) rfl rfl (own_list (i:=0) (cs:=kC top) rfl) rfl ?_
 refine TL.call hF (RunR_fn hf hfl hc hcl) rfl rfl ?_
 rintro _ _ ⟨la,lc,ls,segs,rfl,hn,hls,hcap,rfl⟩
 refine TL.move hF rfl rfl ?_
 refine TL.extract hF rfl rfl rfl ?_
 refine TL.extract hF rfl rfl rfl ?_
 refine TL.assign hF rfl rfl ?_
 refine TL.assign hF rfl rfl ?_
 refine TL.nil ?_
 refine TQ.then_n ?_
 refine T.seq ?_
 refine T.seq ?_
 refine T.region ?_
 refine TL.move hF rfl rfl ?_
 refine TL.bin hF rfl rfl rfl rfl ?_
 refine TL.nil ?_
 refine TQ.then_n ?_
 refine T.cond_d rfl (fun ht21=>?_) (fun ht21=>?_)
 ·refine T.seq ?_
  refine T.region ?_
  refine TL.move hF rfl rfl ?_
  refine TL.assign hF rfl rfl ?_
  refine TL.assign hF rfl rfl ?_
  refine TL.nil ?_
  refine TQ.then_n ?_
  refine T.ret ?_
  refine TQ.then_r ?_
  refine TQ.hsub (segs++η) (List.Sublist.append (List.Sublist.refl _) (List.sublist_cons_self _ _)) ?_
  refine TQ.rets [6,7] _ rfl rfl rfl ?_
  have hne:¬ askedS (fl.map TE.ex) cells top=0:=fun h=>ht21 (by unfold runE; rw [if_pos h])
  have e:needsS (fl.map TE.ex) cells top=([],askedS (fl.map TE.ex) cells top):=by unfold needsS; rw [if_neg hne]
  have e2:(runE (fl.map TE.ex) cells top).2=askedS (fl.map TE.ex) cells top:=by unfold runE; rw [if_neg hne]
  rw [e]
  exact ⟨none,0,segs,by rw [e2]; rfl,Row.none,rfl⟩
 ·refine T.skip ?_
  refine TQ.then_n ?_
  refine T.seq ?_
  refine T.region ?_
  have hask:askedS (fl.map TE.ex) cells top=0:=by
   rcases Int.lt_trichotomy (askedS (fl.map TE.ex) cells top) 0 with q | q | q
   ·exfalso; apply ht21; unfold runE; rw [if_neg (by omega)]; show ¬ askedS (fl.map TE.ex) cells top=0; omega
   ·exact q
   ·exfalso; apply ht21; unfold runE; rw [if_neg (by omega)]; show ¬ askedS (fl.map TE.ex) cells top=0; omega
  obtain ⟨hsc,hk⟩:=scn_of hask
  have hrun:runE (fl.map TE.ex) cells top=(traceS (fl.map TE.ex) cells top,0):=by unfold runE; rw [if_pos hask]
  rw [hrun] at hn
  dsimp only at hn
  have hlen:ls.length≤1608:=by rw [← nds_len,hn]; exact trace_len hsc hk
  have hrng:=tra_rng hsc hk
  rw [← hn] at hrng
  have hcr:∀ i,∀ x∈cellsOf ((nds ls).take i),0≤x∧x<100:=fun i x hx=>by
   obtain ⟨y,hy,d,hd,h1,rfl⟩:=mem_cellsOf.1 hx
   exact hrng y (List.mem_of_mem_take hy) d hd h1
  have hcr2:∀ i (hi:i<ls.length) k,∀ x∈(cellsOf ((nds ls).take i)++cellsD (ls[i].nd.deps.take k)),0≤x∧x<100:=fun i hi k x hx=>by
   rcases List.mem_append.1 hx with h | h
   ·exact hcr i x h
   ·obtain ⟨d,hd,rfl⟩:=List.mem_map.1 h
    rw [List.mem_filter] at hd
    exact hrng ls[i].nd (List.mem_map_of_mem (List.getElem_mem hi)) d (List.mem_of_mem_take hd.1) (by simpa using hd.2)
  refine TL.buildSlice hF rfl (cs:=#[]) (e:=3) (fun w=>by kernel_rfl) rfl (fun b23=>?_)
  refine TL.assign hF rfl rfl ?_
  refine TL.nil ?_
  refine TQ.then_n ?_
  refine T.seq ?_
  refine T.seq ?_
  refine T.region ?_
  refine TL.assign hF rfl rfl ?_
  refine TL.nil ?_
  refine TQ.then_n ?_
  refine T.block ?_
  refine T.loop (ι:=NR) (fun s=>s.i≤ls.length∧s.L=(cellsOf ((nds ls).take s.i)).foldl risI []∧OSl 3 1 (.slice s.a s.L.length s.c) s.L.length (ints s.L) s.g) (fun s=>[(6,.slice none 0 0),(7,.int .i64 0),(8,.slice la ls.length lc),(10,.slice s.a s.L.length s.c),(11,.int .i64 (s.i:Int))]) (fun s=>s.g::(segs++([(b5,Obj.cells (kC top).toArray 25 (0,0))]::η))) (fun s=>ls.length - s.i) ⟨0,[],some ⟨b23,0,none⟩,0,[(b23,Obj.cells #[] 3 (0,0))]⟩ ⟨Nat.zero_le _,rfl,osl_empty⟩ ⟨rfl,rfl,rfl,rfl,rfl,trivial⟩ rfl ?_
  rintro ⟨i,L,oa,oc,og⟩ ⟨hi,hL,ho⟩
  dsimp only at hi hL ho
  refine T.seq ?_
  refine T.seq ?_
  refine T.region ?_
  refine TL.move hF rfl rfl ?_
  refine TL.move hF rfl rfl ?_
  refine TL.len hF rfl rfl ?_
  refine TL.bin hF rfl rfl rfl rfl ?_
  refine TL.nil ?_
  refine TQ.then_n ?_
  first | refine T.cond_d rfl (fun ht27=>?_) (fun ht27=>?_) | refine T.cond _ rfl (fun ht27=>?_) (fun ht27=>?_)
  ·refine T.skip ?_
   refine TQ.then_n ?_
   refine T.seq ?_
   refine T.block ?_
   refine T.seq ?_
   refine T.region ?_
   refine TL.assign hF rfl rfl ?_
   refine TL.nil ?_
   refine TQ.then_n ?_
   refine T.block ?_
   have hil:i<ls.length:=by have h:(i:Int)<(ls.length:Int):=ht27; omega
   have hdl:=(hls.it hil).len
   refine T.loop (ι:=NR) (fun s=>s.i≤ls[i].nd.deps.length∧s.L=((cellsOf ((nds ls).take i)++cellsD (ls[i].nd.deps.take s.i))).foldl risI []∧OSl 3 1 (.slice s.a s.L.length s.c) s.L.length (ints s.L) s.g) (fun s=>[(6,.slice none 0 0),(7,.int .i64 0),(8,.slice la ls.length lc),(10,.slice s.a s.L.length s.c),(11,.int .i64 (i:Int)),(12,.int .i64 (s.i:Int))]) (fun s=>s.g::(segs++([(b5,Obj.cells (kC top).toArray 25 (0,0))]::η))) (fun s=>ls[i].nd.deps.length - s.i) ⟨0,L,oa,oc,og⟩ ⟨Nat.zero_le _,by dsimp only; rw [hL]; simp [cellsD],ho⟩ ⟨rfl,rfl,rfl,rfl,rfl,rfl,trivial⟩ rfl ?_
   rintro ⟨k,M,ma,mc,mg⟩ ⟨hk1,hM,hmo⟩
   dsimp only at hk1 hM hmo
   have hrl:=ris_len (hcr2 i hil k)
   rw [← hM] at hrl
   refine T.seq ?_
   refine T.seq ?_
   refine T.region ?_
   refine TL.move hF rfl rfl ?_
   refine TL.move hF rfl rfl ?_
   refine TL.move hF rfl rfl ?_
   refine TL.indexAddr hF rfl rfl (hls.ad (i:=i) hil) (by first | omega | (dsimp only; omega)) (by first | omega | (dsimp only; omega)) rfl ?_
   refine TL.fieldAddr hF rfl rfl ?_
   refine TL.load hF rfl ((hls.up (by intro s hs; simp [hs])).depsAt hil) rfl ?_
   refine TL.len hF rfl rfl ?_
   refine TL.bin hF rfl rfl rfl rfl ?_
   refine TL.nil ?_
   refine TQ.then_n ?_
   first | refine T.cond_d rfl (fun ht37=>?_) (fun ht37=>?_) | refine T.cond _ rfl (fun ht37=>?_) (fun ht37=>?_)
   ·refine T.skip ?_
    refine TQ.then_n ?_
    refine T.seq ?_
    refine T.block ?_
    refine T.seq ?_
    refine T.region ?_
    refine TL.move hF rfl rfl ?_
    refine TL.move hF rfl rfl ?_
    have hkl:k<ls[i].nd.deps.length:=by have h:(k:Int)<(ls[i].nd.deps.length:Int):=ht37; omega
    refine TL.indexAddr hF rfl rfl (hls.ad (i:=i) hil) (by first | omega | (dsimp only; omega)) (by first | omega | (dsimp only; omega)) rfl ?_
    refine TL.fieldAddr hF rfl rfl ?_
    refine TL.load hF rfl ((hls.up (by intro s hs; simp [hs])).depsAt hil) rfl ?_
    refine TL.move hF rfl rfl ?_
    refine TL.indexAddr hF rfl rfl ((hls.it hil).row.tad dpC_len (by decide) (i:=k) hkl) (by first | omega | (dsimp only; omega)) (by first | omega | (dsimp only; omega)) rfl ?_
    refine TL.fieldAddr hF rfl rfl ?_
    refine TL.load hF rfl (((hls.it hil).row.up (by intro s hs; simp [hs])).tab dpC_len (i:=k) hkl 0 rfl) rfl ?_
    refine TL.not hF rfl rfl ?_
    refine TL.nil ?_
    refine TQ.then_n ?_
    refine T.cond _ rfl (fun ht49=>?_) (fun ht49=>?_)
    ·refine T.region ?_
     refine TL.move hF rfl rfl ?_
     refine TL.move hF rfl rfl ?_
     refine TL.move hF rfl rfl ?_
     refine TL.indexAddr hF rfl rfl (hls.ad (i:=i) hil) (by first | omega | (dsimp only; omega)) (by first | omega | (dsimp only; omega)) rfl ?_
     refine TL.fieldAddr hF rfl rfl ?_
     refine TL.load hF rfl ((hls.up (by intro s hs; simp [hs])).depsAt hil) rfl ?_
     refine TL.move hF rfl rfl ?_
     refine TL.indexAddr hF rfl rfl ((hls.it hil).row.tad dpC_len (by decide) (i:=k) hkl) (by first | omega | (dsimp only; omega)) (by first | omega | (dsimp only; omega)) rfl ?_
     refine TL.fieldAddr hF rfl rfl ?_
     refine TL.load hF rfl (((hls.it hil).row.up (by intro s hs; simp [hs])).tab dpC_len (i:=k) hkl 1 rfl) rfl ?_
     refine TL.call hF (RisingO_fn (n:=ls[i].nd.deps[k].cell) hmo (by omega) hrl.2) rfl rfl ?_
     rintro _ _ ⟨na,nc,ng,rfl,hng,rfl⟩
     refine TL.hsub (ng::(segs++([(b5,Obj.cells (kC top).toArray 25 (0,0))]::η))) (List.sublist_cons_self _ _) ?_
     refine TL.assign hF rfl rfl ?_
     refine TL.nil ?_
     refine TQ.block_n ?_
     refine TQ.then_n ?_
     refine T.region ?_
     refine TL.move hF rfl rfl ?_
     refine TL.add hF rfl rfl (by first | omega | (dsimp only; omega)) (by first | omega | (dsimp only; omega)) rfl ?_
     refine TL.assign hF rfl rfl ?_
     refine TL.nil ?_
     have hcf:ls[i].nd.deps[k].call=false:=by simpa using ht49
     refine TQ.round ⟨k+1,risI M ls[i].nd.deps[k].cell,na,nc,ng⟩ ⟨by dsimp only; omega,?_,hng⟩ (by dsimp only; omega) ⟨rfl,rfl,rfl,rfl,rfl,rfl,trivial⟩ rfl
     dsimp only
     rw [cellsD_snoc hkl,hcf,if_neg (by simp),← List.append_assoc,List.foldl_append,← hM]; rfl
    ·refine T.skip ?_
     refine TQ.block_n ?_
     refine TQ.then_n ?_
     refine T.region ?_
     refine TL.move hF rfl rfl ?_
     refine TL.add hF rfl rfl (by first | omega | (dsimp only; omega)) (by first | omega | (dsimp only; omega)) rfl ?_
     refine TL.assign hF rfl rfl ?_
     refine TL.nil ?_
     have hcf:ls[i].nd.deps[k].call=true:=by simpa using ht49
     refine TQ.round ⟨k+1,M,ma,mc,mg⟩ ⟨by dsimp only; omega,?_,hmo⟩ (by dsimp only; omega) ⟨rfl,rfl,rfl,rfl,rfl,rfl,trivial⟩ rfl
     dsimp only
     rw [cellsD_snoc hkl,hcf,if_pos rfl]; exact hM
   ·refine T.exit ?_
    refine TQ.then_x ?_
    refine TQ.then_x ?_
    refine TQ.block_x ?_
    refine TQ.block_n ?_
    refine TQ.then_n ?_
    refine T.region ?_
    refine TL.move hF rfl rfl ?_
    refine TL.add hF rfl rfl (by first | omega | (dsimp only; omega)) (by first | omega | (dsimp only; omega)) rfl ?_
    refine TL.assign hF rfl rfl ?_
    refine TL.nil ?_
    have hke:ls[i].nd.deps.length≤k:=by have h:¬ (k:Int)<(ls[i].nd.deps.length:Int):=ht37; omega
    refine TQ.round ⟨i+1,M,ma,mc,mg⟩ ⟨by dsimp only; omega,?_,hmo⟩ (by dsimp only; omega) ⟨rfl,rfl,rfl,rfl,rfl,trivial⟩ rfl
    dsimp only
    rw [hM,List.take_of_length_le hke]
    congr 1
    rw [cellsOf_eq,cellsOf_eq,List.take_succ_eq_append_getElem (by rw [nds_len]; exact hil),List.flatMap_append,nds_get hil]
    simp
  ·refine T.exit ?_
   refine TQ.then_x ?_
   refine TQ.then_x ?_
   refine TQ.block_x ?_
   refine TQ.then_n ?_
   refine T.seq ?_
   refine T.region ?_
   refine TL.move hF rfl rfl ?_
   refine TL.assign hF rfl rfl ?_
   refine TL.assign hF rfl rfl ?_
   refine TL.nil ?_
   refine TQ.then_n ?_
   refine T.ret ?_
   have hie:ls.length≤i:=by have h:¬ (i:Int)<(ls.length:Int):=ht27; omega
   refine TQ.hsub (og::(segs++η)) (List.Sublist.cons_cons _ (List.Sublist.append (List.Sublist.refl _) (List.sublist_cons_self _ _))) ?_
   refine TQ.rets [6,7] _ rfl rfl rfl ?_
   have e:needsS (fl.map TE.ex) cells top=(L,0):=by
    unfold needsS
    rw [if_pos hask,hL,List.take_of_length_le (by rw [nds_len]; exact hie),hn]
   rw [e]
   exact ⟨oa,oc,og::segs,rfl,ho.row (by simp),rfl⟩
end Go.Proofs.YtdiacobmhkmljaaGreatDoor
