/- Several texts in one. -/
import Derived.Test.YtbajelldegijkaaDoorVg
import Derived.Test.YtbajelldegijkaaDoorVc
/- The reference: which window is over sooner. -/
namespace Go.Proofs.YtbajelldegijkaaDoor
open Go.Sl
variable {S:Nat→Prop} {w0:World} {η:Heap}
set_option maxHeartbeats 2000000 in
theorem sooner_fn (x y : Ot) :
    Rt Tryd.prog 68 [otV x,otV y].toArray S w0 η (fun v η'=>v = .bool (tLt x y)∧η'=η):=by
  have hF:=open_wide
  refine Rt.of (fn:=Tryd.f68) Tryd.func68 rfl rfl ?_
  refine T.seq ?_
  refine T.region ?_
  refine TL.box hF rfl rfl (fun b2=>?_)
  refine TL.box hF rfl rfl (fun b3=>?_)
  refine TL.assign hF rfl rfl ?_
  refine TL.nil ?_
  refine TQ.then_n ?_
  refine T.seq ?_
  refine T.region ?_
  refine TL.fieldAddr hF rfl rfl ?_
  refine TL.load hF rfl (show At _ _ _ _ (.int .i64 x.to) from own_mem (b:=b2) (cs:=(otV x).cells) (e:=59) (fz:=(0,0)) (by simp) rfl) rfl ?_
  refine TL.fieldAddr hF rfl rfl ?_
  refine TL.load hF rfl (show At _ _ _ _ (.int .i64 y.to) from own_mem (b:=b3) (cs:=(otV y).cells) (e:=59) (fz:=(0,0)) (by simp) rfl) rfl ?_
  refine TL.bin hF rfl rfl rfl rfl ?_
  refine TL.move hF rfl rfl ?_
  refine TL.join [_,_,_,_,_,_,_,_,_,_,_] 21 (.bool (tLt x y)) rfl ?_ ?_
  · refine TL.gd (t:=10) rfl (fun g1_10=>?_) (fun g1_10=>?_)
    · refine TL.off hF rfl rfl rfl (decide_eq_true g1_10) rfl ?_
      refine TL.off hF rfl rfl rfl (decide_eq_true g1_10) rfl ?_
      refine TL.off hF rfl rfl rfl (decide_eq_true g1_10) rfl ?_
      refine TL.off hF rfl rfl rfl (decide_eq_true g1_10) rfl ?_
      refine TL.off hF rfl rfl rfl (decide_eq_true g1_10) rfl ?_
      refine TL.off hF rfl rfl rfl (decide_eq_true g1_10) rfl ?_
      refine TL.offU hF rfl rfl rfl rfl ?_
      refine TL.offU hF rfl rfl rfl rfl ?_
      refine TL.offU hF rfl rfl rfl rfl ?_
      refine TL.off hF rfl rfl rfl (decide_eq_true g1_10) rfl ?_
      refine TL.pickT hF rfl (decide_eq_true g1_10) rfl rfl ?_
      refine TL.finJ ⟨?_,by repeat (first | exact trivial | refine ⟨rfl,?_⟩)⟩
      first | exact congrArg (fun z=>some (Value.bool z)) (by simp [tLt, *]) | exact congrArg (fun z=>some (Value.bool z)) (by simp [*])
    · refine TL.on rfl rfl rfl (decide_eq_false g1_10) ?_
      refine TL.fieldAddr hF rfl rfl ?_
      refine TL.on rfl rfl rfl (decide_eq_false g1_10) ?_
      refine TL.load hF rfl (show At _ _ _ _ (.int .i64 x.to) from own_mem (b:=b2) (cs:=(otV x).cells) (e:=59) (fz:=(0,0)) (by simp) rfl) rfl ?_
      refine TL.on rfl rfl rfl (decide_eq_false g1_10) ?_
      refine TL.fieldAddr hF rfl rfl ?_
      refine TL.on rfl rfl rfl (decide_eq_false g1_10) ?_
      refine TL.load hF rfl (show At _ _ _ _ (.int .i64 y.to) from own_mem (b:=b3) (cs:=(otV y).cells) (e:=59) (fz:=(0,0)) (by simp) rfl) rfl ?_
      refine TL.on rfl rfl rfl (decide_eq_false g1_10) ?_
      refine TL.bin hF rfl rfl rfl rfl ?_
      refine TL.on rfl rfl rfl (decide_eq_false g1_10) ?_
      refine TL.move hF rfl rfl ?_
      refine TL.join [_,_,_,_] 20 (.bool (decide (x.to=y.to) && oLt x y)) rfl ?_ ?_
      · refine TL.gd (t:=16) rfl (fun g1_16=>?_) (fun g1_16=>?_)
        · refine TL.on rfl rfl rfl (decide_eq_true g1_16) ?_
          refine TL.loadA hF (otC x) rfl rfl (own_list (i:=1) (cs:=otC x) rfl) rfl ?_
          refine TL.on rfl rfl rfl (decide_eq_true g1_16) ?_
          refine TL.loadA hF (otC y) rfl rfl (own_list (i:=0) (cs:=otC y) rfl) rfl ?_
          refine TL.on rfl rfl rfl (decide_eq_true g1_16) ?_
          refine TL.callV hF (first_fn x y) rfl rfl ?_
          refine TL.on rfl rfl rfl (decide_eq_false g1_10) ?_
          refine TL.pickT hF rfl (decide_eq_true g1_16) rfl rfl ?_
          refine TL.finJ ⟨?_,by repeat (first | exact trivial | refine ⟨rfl,?_⟩)⟩
          first | exact congrArg (fun z=>some (Value.bool z)) (by simp [*]) | exact congrArg (fun z=>some (Value.bool z)) (by simp [*])
        · refine TL.off hF rfl rfl rfl (decide_eq_false g1_16) rfl ?_
          refine TL.off hF rfl rfl rfl (decide_eq_false g1_16) rfl ?_
          refine TL.off hF rfl rfl rfl (decide_eq_false g1_16) rfl ?_
          refine TL.on rfl rfl rfl (decide_eq_false g1_10) ?_
          refine TL.pickF hF rfl (decide_eq_false g1_16) rfl rfl ?_
          refine TL.finJ ⟨?_,by repeat (first | exact trivial | refine ⟨rfl,?_⟩)⟩
          first | exact congrArg (fun z=>some (Value.bool z)) (by simp [*]) | exact congrArg (fun z=>some (Value.bool z)) (by simp [*])
      · refine TL.pickF hF rfl (decide_eq_false g1_10) rfl rfl ?_
        refine TL.finJ ⟨?_,by repeat (first | exact trivial | refine ⟨rfl,?_⟩)⟩
        first | exact congrArg (fun z=>some (Value.bool z)) (by simp [tLt, *]) | exact congrArg (fun z=>some (Value.bool z)) (by simp [*])
  · refine TL.assign hF rfl rfl ?_
    refine TL.nil ?_
    refine TQ.then_n ?_
    refine T.ret ?_
    refine TQ.pop (TQ.pop ?_)
    exact TQ.rets [4] _ rfl rfl rfl ⟨rfl,rfl⟩
end Go.Proofs.YtbajelldegijkaaDoor
/- Windows that are over, put in from behind, as the reference does it. -/
namespace Go.Proofs.YtbajelldegijkaaDoor
/-- A window stands between what is before it and what comes sooner than it not. -/
theorem insT_at {x:Ot}:∀ {P Q:List Ot},(∀ y∈P,tLt x y=false)→(∀ y∈Q,tLt x y=true)→insT x (P++Q)=P++x::Q
  | [],[],_,_=>rfl
  | [],y::r,_,hq=>by
    show insT x (y::r)=_
    rw [insT,if_pos (hq y (by simp))]; rfl
  | y::r,Q,hp,hq=>by
    show insT x (y::(r++Q))=_
    rw [insT,if_neg (by rw [hp y (by simp)]; exact Bool.false_ne_true),insT_at (fun z hz=>hp z (List.mem_cons_of_mem _ hz)) hq]; rfl
/-- Before one that is not later than it, nothing is. -/
theorem low_of {x y:Ot} {P:List Ot} (hu:TUp (P++[y])) (h:tLt x y=false):∀ z∈P++[y],tLt x z=false:=by
  intro z hz
  rcases List.mem_append.1 hz with hz | hz
  · have h1:tLt z y=true:=(List.pairwise_append.1 hu).2.2 z hz y (by simp)
    cases hx:tLt x z with
    | false=>rfl
    | true=>rw [tLt_tr x z y hx h1] at h; cases h
  · rw [List.mem_singleton.1 hz]; exact h
end Go.Proofs.YtbajelldegijkaaDoor
/- The reference: what is over. -/
namespace Go.Proofs.YtbajelldegijkaaDoor
open Go.Sl
variable {S:Nat→Prop} {w0:World} {η:Heap}
theorem osl_row {g c k:Nat} {cur:Array Value} {d:List Ot} {x:Ot} (h:OSl 59 4 (.slice (some ⟨g,0,none⟩) d.length c) d.length (d.flatMap otC) [(g,.cells cur 59 (0,0))]) (hk:k<d.length):OSl 59 4 (.slice (some ⟨g,0,none⟩) d.length c) d.length ((d.set k x).flatMap otC) [(g,.cells (cur.toList.take (k*4)++otC x++cur.toList.drop (k*4+4)).toArray 59 (0,0))]∧k*4+4≤cur.toList.length:=by
  obtain ⟨h1,h2⟩:=h
  rcases h2 with ⟨hv,_⟩ | ⟨b,cap,cur',hv,hs,hc,hz,ht⟩
  · cases hv
  · simp only [Value.slice.injEq,Option.some.injEq,Addr.mk.injEq,and_true,true_and] at hv
    obtain ⟨rfl,rfl⟩:=hv
    simp only [List.cons.injEq,Prod.mk.injEq,Obj.cells.injEq,and_true,true_and] at hs
    subst hs
    have hlen:cur.toList.length=c*4:=by simpa using hz
    have hcm:d.length*4≤c*4:=Nat.mul_le_mul_right _ hc
    have e2:d.set k x=d.take k++x::d.drop (k+1):=List.set_eq_take_append_cons_drop ▸ (if_pos hk)
    have l1:(d.take k).length=k:=by rw [List.length_take]; omega
    have f1:((d.take k).flatMap otC).length=k*4:=by rw [flat4,l1]
    have ecur:cur.toList=d.flatMap otC++cur.toList.drop (d.length*4):=by rw [← ht,List.take_append_drop]
    have ed:d.flatMap otC=(d.take k).flatMap otC++(otC d[k]++(d.drop (k+1)).flatMap otC):=by
      have e1:d=d.take k++d[k]::d.drop (k+1):=by rw [List.getElem_cons_drop,List.take_append_drop]
      conv=>lhs; rw [e1]
      rw [List.flatMap_append,List.flatMap_cons]
    obtain ⟨E,hE⟩:∃ E,cur.toList.drop (d.length*4)=E:=⟨_,rfl⟩
    rw [hE] at ecur
    have ecur2:cur.toList=(d.take k).flatMap otC++(otC d[k]++((d.drop (k+1)).flatMap otC++E)):=ecur.trans (by rw [ed]; simp only [List.append_assoc])
    have hEl:E.length=c*4 - d.length*4:=by rw [← hE,List.length_drop,hlen]
    have enew:cur.toList.take (k*4)++otC x++cur.toList.drop (k*4+4)=(d.set k x).flatMap otC++E:=by
      rw [ecur2,List.take_left' f1,show k*4+4=k*4+(otC d[k]).length from rfl,← List.drop_drop,List.drop_left' f1,List.drop_left' rfl,e2,List.flatMap_append,List.flatMap_cons]
      simp only [List.append_assoc]
    have hsl:(d.set k x).length=d.length:=List.length_set
    refine ⟨⟨by rw [flat4,hsl],.inr ⟨g,c,_,rfl,rfl,hc,?_,?_⟩⟩,by omega⟩
    · rw [enew]; simp only [List.size_toArray,List.length_append,flat4,hsl,hEl]; omega
    · rw [enew,List.take_left' (by rw [flat4,hsl])]
theorem overS_step {l:List Ot} {b m:Int} {i:Nat} (h:i<l.length):overS (l.take (i+1)) b m=if isOver b m l[i] then insT l[i] (overS (l.take i) b m) else overS (l.take i) b m:=by
  unfold overS
  rw [List.take_succ_eq_append_getElem h,List.filter_append,List.foldl_append]
  cases hq:isOver b m l[i]
  · rw [List.filter_cons_of_neg (by rw [hq]; exact Bool.false_ne_true)]; rfl
  · rw [List.filter_cons_of_pos hq]; rfl
theorem insT_len (x:Ot):∀ l:List Ot,(insT x l).length=l.length+1
  | []=>rfl
  | y::r=>by
    unfold insT
    split
    · rfl
    · rw [List.length_cons,insT_len x r]; rfl
theorem overS_len {l:List Ot} {b m:Int}:(overS l b m).length≤l.length:=by
  have key:∀ (t o:List Ot),(t.foldl (fun o x=>insT x o) o).length=o.length+t.length:=by
    intro t
    induction t with
    | nil=>intro o; rfl
    | cons x r ih=>intro o; rw [List.foldl_cons,ih,insT_len,List.length_cons]; omega
  unfold overS
  rw [key]
  have:=List.length_filter_le (isOver b m) l
  simp only [List.length_nil,Nat.zero_add]; omega
/-- One of a list moved to a place before its end. -/
def mvO (out:List Ot) (x:Ot) (k:Nat):List Ot:=out.take k++x::out.drop k
theorem mvO_len {out:List Ot} {x:Ot} {k:Nat} (h:k≤out.length):(mvO out x k).length=out.length+1:=by
  unfold mvO; rw [List.length_append,List.length_cons,List.length_take,List.length_drop]; omega
theorem mvO_at {out:List Ot} {x:Ot} {k:Nat} (h:k≤out.length) (h2:k<(mvO out x k).length):(mvO out x k)[k]=x:=by
  have l1:(out.take k).length=k:=by rw [List.length_take]; omega
  have e:(mvO out x k)[k]?=some x:=by
    unfold mvO
    rw [List.getElem?_append_right (by omega)]
    simp [l1]
  exact (List.getElem?_eq_some_iff.1 e).2
theorem mvO_before {out:List Ot} {x:Ot} {k j:Nat} (hj:j<k) (h:k≤out.length) (h2:j<(mvO out x k).length):(mvO out x k)[j]=out[j]:=by
  have l1:(out.take k).length=k:=by rw [List.length_take]; omega
  have e:(mvO out x k)[j]?=some out[j]:=by
    unfold mvO
    rw [List.getElem?_append_left (by omega),List.getElem?_take,if_pos hj,List.getElem?_eq_getElem (by omega)]
  exact (List.getElem?_eq_some_iff.1 e).2
theorem mvO_swap {out:List Ot} {x:Ot} {k:Nat} (hk:k<out.length):((mvO out x (k+1)).set (k+1) out[k]).set k x=mvO out x k:=by
  have hl:=mvO_len (x:=x) (show k+1≤out.length by omega)
  apply List.ext_getElem?
  intro i
  rw [List.getElem?_set,List.getElem?_set]
  simp only [List.length_set,hl]
  unfold mvO
  simp only [List.getElem?_append,List.length_take,List.getElem?_take,List.getElem?_cons,List.getElem?_drop]
  by_cases h1:k=i
  · subst h1
    simp [Nat.min_eq_left (show k≤out.length by omega)]
    omega
  · by_cases h2:k+1=i
    · subst h2
      simp [Nat.min_eq_left (show k≤out.length by omega),hk]
      intro h; omega
    · rw [if_neg h1,if_neg h2,Nat.min_eq_left (show k+1≤out.length by omega),Nat.min_eq_left (show k≤out.length by omega)]
      by_cases h3:i<k
      · rw [if_pos (by omega),if_pos h3,if_pos (by omega),if_pos h3]
      · rw [if_neg (by omega),if_neg h3,if_neg (by omega),if_neg (by omega)]
        congr 1; omega
end Go.Proofs.YtbajelldegijkaaDoor
/- The reference: what is over, walked. -/
namespace Go.Proofs.YtbajelldegijkaaDoor
open Go.Sl
variable {S:Nat→Prop} {w0:World} {η:Heap}
theorem osl_rowL {g c k:Nat} {cur:List Value} {d:List Ot} {x:Ot} (h:OSl 59 4 (.slice (some ⟨g,0,none⟩) d.length c) d.length (d.flatMap otC) [(g,.cells cur.toArray 59 (0,0))]) (hk:k<d.length):OSl 59 4 (.slice (some ⟨g,0,none⟩) d.length c) d.length ((d.set k x).flatMap otC) [(g,.cells (cur.take (k*4)++otC x++cur.drop (k*4+4)).toArray 59 (0,0))]∧k*4+4≤cur.length:=osl_row (cur:=cur.toArray) h hk
set_option maxHeartbeats 8000000 in
theorem overR_fn {a : Option Addr} {l : List Ot} {c : Nat} {before mark : Int} (hr : ORow S w0 η a l) (hl : l.length < 1000000000) (hu : OUp l) :
    Rt Tryd.prog 53 [.slice a l.length c,.int .i64 before,.int .i64 mark].toArray S w0 η (fun v η'=>∃ oa oc og,v = .slice oa (overS l before mark).length oc∧OSl 59 4 (.slice oa (overS l before mark).length oc) (overS l before mark).length ((overS l before mark).flatMap otC) og∧η'=og::η):=by
  have hF:=open_wide
  refine Rt.of (fn:=Tryd.f53) Tryd.func53 rfl rfl ?_
  refine T.seq ?_
  refine T.region ?_
  refine TL.assign hF rfl rfl ?_
  refine TL.nil ?_
  refine TQ.then_n ?_
  refine T.seq ?_
  refine T.region ?_
  refine TL.buildSlice hF rfl (cs:=#[]) (e:=59) (fun w=>by kernel_rfl) rfl (fun b11=>?_)
  refine TL.assign hF rfl rfl ?_
  refine TL.nil ?_
  refine TQ.then_n ?_
  refine T.seq ?_
  refine T.seq ?_
  refine T.region ?_
  refine TL.assign hF rfl rfl ?_
  refine TL.nil ?_
  refine TQ.then_n ?_
  refine T.block ?_
  refine T.loop (ι:=Nat × Option Addr × Nat × Seg) (fun z=>z.1≤l.length∧OSl 59 4 (.slice z.2.1 (overS (l.take z.1) before mark).length z.2.2.1) (overS (l.take z.1) before mark).length ((overS (l.take z.1) before mark).flatMap otC) z.2.2.2) (fun z=>[(0,.slice a l.length c),(1,.int .i64 before),(2,.int .i64 mark),(6,.slice none 0 0),(7,.slice z.2.1 (overS (l.take z.1) before mark).length z.2.2.1),(8,.int .i64 (z.1:Int))]) (fun z=>z.2.2.2::η) (fun z=>l.length - z.1) (0,some ⟨b11,0,none⟩,0,[(b11,Obj.cells #[] 59 (0,0))]) ⟨Nat.zero_le _,osl_empty⟩ ⟨rfl,rfl,rfl,rfl,rfl,rfl,trivial⟩ rfl ?_
  rintro ⟨i,oa,oc,og⟩ ⟨hi,ho⟩
  dsimp only at hi ho
  refine T.seq ?_
  refine T.seq ?_
  refine T.region ?_
  refine TL.move hF rfl rfl ?_
  refine TL.move hF rfl rfl ?_
  refine TL.len hF rfl rfl ?_
  refine TL.bin hF rfl rfl rfl rfl ?_
  refine TL.nil ?_
  refine TQ.then_n ?_
  first | refine T.cond_d rfl (fun ht15=>?_) (fun ht15=>?_) | refine T.cond _ rfl (fun ht15=>?_) (fun ht15=>?_)
  · refine T.skip ?_
    refine TQ.then_n ?_
    refine T.seq ?_
    refine T.block ?_
    refine T.seq ?_
    refine T.seq ?_
    refine T.region ?_
    have hil:i<l.length:=by have h:(i:Int)<(l.length:Int):=ht15; omega
    have hst:=overS_step (b:=before) (m:=mark) hil
    have hol:(overS (l.take i) before mark).length≤i:=by have:=overS_len (l:=l.take i) (b:=before) (m:=mark); rw [List.length_take] at this; omega
    refine TL.move hF rfl rfl ?_
    refine TL.move hF rfl rfl ?_
    refine TL.indexAddr hF rfl rfl (or_ad hr hil) (by first | omega | (dsimp only; omega)) (by first | omega | (dsimp only; omega)) rfl ?_
    refine TL.fieldAddr hF rfl rfl ?_
    refine TL.load hF rfl (or_at (hr.up (fun _ hs=>List.mem_cons_of_mem _ (hs))) hil 1 _ rfl) rfl ?_
    refine TL.move hF rfl rfl ?_
    refine TL.bin hF rfl rfl rfl rfl ?_
    refine TL.move hF rfl rfl ?_
    refine TL.join [_,_,_,_,_,_,_,_] 33 (.bool (decide (l[i].to≤before) || decide (mark<l[i].to))) rfl ?_ ?_
    · refine TL.gd (t:=25) rfl (fun g5_25=>?_) (fun g5_25=>?_)
      · refine TL.off hF rfl rfl rfl (decide_eq_true g5_25) rfl ?_
        refine TL.off hF rfl rfl rfl (decide_eq_true g5_25) rfl ?_
        refine TL.off hF rfl rfl rfl (decide_eq_true g5_25) rfl ?_
        refine TL.off hF rfl rfl rfl (decide_eq_true g5_25) rfl ?_
        refine TL.off hF rfl rfl rfl (decide_eq_true g5_25) rfl ?_
        refine TL.off hF rfl rfl rfl (decide_eq_true g5_25) rfl ?_
        refine TL.off hF rfl rfl rfl (decide_eq_true g5_25) rfl ?_
        refine TL.pickT hF rfl (decide_eq_true g5_25) rfl rfl ?_
        refine TL.finJ ⟨?_,by repeat (first | exact trivial | refine ⟨rfl,?_⟩)⟩
        exact congrArg (fun z=>some (Value.bool z)) (by first | (rw [(decide_eq_true g5_25)]; rfl) | (rw [(decide_eq_true g5_25)]; simp; done) | (simp [*]; done))
      · refine TL.on rfl rfl rfl (decide_eq_false g5_25) ?_
        refine TL.move hF rfl rfl ?_
        refine TL.on rfl rfl rfl (decide_eq_false g5_25) ?_
        refine TL.move hF rfl rfl ?_
        refine TL.on rfl rfl rfl (decide_eq_false g5_25) ?_
        refine TL.indexAddr hF rfl rfl (or_ad hr hil) (by first | omega | (dsimp only; omega)) (by first | omega | (dsimp only; omega)) rfl ?_
        refine TL.on rfl rfl rfl (decide_eq_false g5_25) ?_
        refine TL.fieldAddr hF rfl rfl ?_
        refine TL.on rfl rfl rfl (decide_eq_false g5_25) ?_
        refine TL.load hF rfl (or_at (hr.up (fun _ hs=>List.mem_cons_of_mem _ (hs))) hil 1 _ rfl) rfl ?_
        refine TL.on rfl rfl rfl (decide_eq_false g5_25) ?_
        refine TL.move hF rfl rfl ?_
        refine TL.on rfl rfl rfl (decide_eq_false g5_25) ?_
        refine TL.bin hF rfl rfl rfl rfl ?_
        refine TL.pickF hF rfl (decide_eq_false g5_25) rfl rfl ?_
        refine TL.finJ ⟨?_,by repeat (first | exact trivial | refine ⟨rfl,?_⟩)⟩
        exact congrArg (fun z=>some (Value.bool z)) (by first | (rw [(decide_eq_false g5_25)]; rfl) | (rw [(decide_eq_false g5_25)]; simp; done) | (simp [*]; done))
    · refine TL.nil ?_
      refine TQ.then_n ?_
      refine T.cond _ rfl (fun ht33=>?_) (fun ht33=>?_)
      · refine T.exit ?_
        refine TQ.then_x ?_
        refine TQ.block_x ?_
        refine TQ.then_n ?_
        refine T.region ?_
        refine TL.move hF rfl rfl ?_
        refine TL.add hF rfl rfl (by first | omega | (dsimp only; omega)) (by first | omega | (dsimp only; omega)) rfl ?_
        refine TL.assign hF rfl rfl ?_
        refine TL.nil ?_
        have hno:isOver before mark l[i]=false:=by
          unfold isOver
          have h9:(decide (l[i].to≤before) || decide (mark<l[i].to))=true:=ht33
          rw [Bool.or_eq_true,decide_eq_true_eq,decide_eq_true_eq] at h9
          rw [Bool.and_eq_false_iff,decide_eq_false_iff_not,decide_eq_false_iff_not]
          omega
        rw [hno,if_neg Bool.false_ne_true] at hst
        exact TQ.round (i+1,oa,oc,og) ⟨hil,by dsimp only; rw [hst]; exact ho⟩ (by dsimp only; omega) ⟨rfl,rfl,rfl,rfl,by dsimp only; rw [hst]; rfl,rfl,trivial⟩ rfl
      · refine T.skip ?_
        refine TQ.then_n ?_
        refine T.seq ?_
        refine T.region ?_
        refine TL.move hF rfl rfl ?_
        refine TL.move hF rfl rfl ?_
        refine TL.move hF rfl rfl ?_
        refine TL.indexAddr hF rfl rfl (or_ad hr hil) (by first | omega | (dsimp only; omega)) (by first | omega | (dsimp only; omega)) rfl ?_
        refine TL.loadA hF (otC l[i]) rfl rfl (or_at (hr.up (fun _ hs=>List.mem_cons_of_mem _ (hs))) hil) rfl ?_
        refine TL.buildSlice hF rfl (cs:=(otC l[i]).toArray) (e:=59) (fun w=>by kernel_rfl) rfl (fun bq=>?_)
        refine TL.append hF 1 rfl rfl rfl ho (row_own (cs:=otC l[i]) (e:=59) (b:=bq) (by simp)).src rfl rfl (otC1 _) (by omega) (by omega) rfl (fun pa pc pg ph=>?_)
        have emv:(overS (l.take i) before mark).flatMap otC++otC l[i]=(mvO (overS (l.take i) before mark) l[i] (overS (l.take i) before mark).length).flatMap otC:=by
          unfold mvO; rw [List.take_length,List.drop_length,List.flatMap_append]; simp
        rw [emv] at ph
        obtain ⟨g,gcap,cur,hgv,rfl,_⟩:=OSl.ex ph (Nat.succ_pos _)
        simp only [Value.slice.injEq,true_and] at hgv
        obtain ⟨rfl,rfl⟩:=hgv
        obtain ⟨cur,rfl⟩:∃ cl:List Value,cur=cl.toArray:=⟨cur.toList,(Array.toArray_toList).symm⟩
        refine TL.assign hF rfl rfl ?_
        refine TL.nil ?_
        refine TQ.then_n ?_
        refine T.seq ?_
        refine T.region ?_
        refine TL.move hF rfl rfl ?_
        refine TL.len hF rfl rfl ?_
        refine TL.sub hF rfl rfl (by first | omega | (dsimp only; omega)) (by first | omega | (dsimp only; omega)) rfl ?_
        refine TL.assign hF rfl rfl ?_
        refine TL.nil ?_
        refine TQ.then_n ?_
        refine T.block ?_
        refine T.heap (η':=[(bq,Obj.cells (otC l[i]).toArray 59 (0,0))]::[(g,Obj.cells (cur).toArray 59 (0,0))]::η) rfl ?_
        refine T.pick [1,0] [_,_] rfl rfl rfl ?_
        refine T.hsub ([(g,Obj.cells (cur).toArray 59 (0,0))]::η) (List.Sublist.cons_cons _ (List.sublist_cons_self _ _)) ?_
        refine T.loop (ι:=Nat × List Value) (fun z=>z.1≤(overS (l.take i) before mark).length∧(∀ y∈(overS (l.take i) before mark).drop z.1,tLt l[i] y=true)∧OSl 59 4 (.slice (some ⟨g,0,none⟩) ((overS (l.take i) before mark).length+1) pc) ((overS (l.take i) before mark).length+1) ((mvO (overS (l.take i) before mark) l[i] z.1).flatMap otC) [(g,Obj.cells (z.2).toArray 59 (0,0))]) (fun z=>[(0,.slice a l.length c),(1,.int .i64 before),(2,.int .i64 mark),(6,.slice none 0 0),(7,.slice (some ⟨g,0,none⟩) ((overS (l.take i) before mark).length+1) pc),(8,.int .i64 (i:Int)),(9,.int .i64 (z.1:Int))]) (fun z=>[(g,Obj.cells (z.2).toArray 59 (0,0))]::η) (fun z=>z.1) ((overS (l.take i) before mark).length,cur) ⟨Nat.le_refl _,by rw [List.drop_length]; simp,ph⟩ ⟨rfl,rfl,rfl,rfl,rfl,rfl,congrArg (fun z=>some (Value.int .i64 z)) (by first | omega | (dsimp only; omega)),trivial⟩ rfl ?_
        clear ph
        rintro ⟨k,cur⟩ ⟨hk,hq,hc⟩
        dsimp only at hk hq hc
        have hml:=mvO_len (x:=l[i]) hk
        have hxk:=mvO_at (x:=l[i]) hk (by omega)
        have hrw:ORow S w0 ([(g,Obj.cells (cur).toArray 59 (0,0))]::η) (some ⟨g,0,none⟩) (mvO (overS (l.take i) before mark) l[i] k):=hc.row List.mem_cons_self
        refine T.seq ?_
        refine T.seq ?_
        by_cases hk0:0<k
        · refine T.draw ?_
          refine DR.stepV [_] rfl [(9,_,none)] rfl rfl ⟨⟨rfl,by kernel_rfl⟩,trivial⟩ (fun ext=>TL.move hF rfl rfl TL.fin) ?_
          refine DR.stepV [_,_] rfl [(44,_,some 0)] rfl rfl ⟨⟨rfl,rfl,rfl⟩,trivial⟩ (fun ext=>TL.bin hF rfl rfl rfl rfl TL.fin) ?_
          refine DR.stepV [_,_,_] rfl [(45,_,some 1)] rfl rfl ⟨⟨rfl,rfl,rfl⟩,trivial⟩ (fun ext=>TL.move hF rfl rfl TL.fin) ?_
          refine DR.stepV [_,_,_,_] rfl [(7,_,none),(46,_,some 2)] rfl rfl ⟨⟨rfl,by kernel_rfl⟩,⟨rfl,rfl,rfl⟩,trivial⟩ (fun ext=>TL.on rfl rfl rfl (by simp; omega) <| TL.move hF rfl rfl TL.fin) ?_
          refine DR.stepV [_,_,_,_,_] rfl [(9,_,none),(46,_,some 2)] rfl rfl ⟨⟨rfl,by kernel_rfl⟩,⟨rfl,rfl,rfl⟩,trivial⟩ (fun ext=>TL.on rfl rfl rfl (by simp; omega) <| TL.move hF rfl rfl TL.fin) ?_
          refine DR.stepV [_,_,_,_,_,_] rfl [(47,_,some 3),(48,_,some 4),(46,_,some 2)] rfl rfl ⟨⟨rfl,rfl,rfl⟩,⟨rfl,rfl,rfl⟩,⟨rfl,rfl,rfl⟩,trivial⟩ (fun ext=>TL.on rfl rfl rfl (by simp; omega) <| TL.indexAddr hF rfl rfl (or_ad hrw (i:=k) (by omega)) (by first | omega | (dsimp only; omega)) (by first | omega | (dsimp only; omega)) rfl TL.fin) ?_
          refine DR.stepV [_,_,_,_,_,_,_] rfl [(49,_,some 5),(46,_,some 2)] rfl rfl ⟨⟨rfl,rfl,rfl⟩,⟨rfl,rfl,rfl⟩,trivial⟩ (fun ext=>TL.on rfl rfl rfl (by simp; omega) <| TL.loadA hF (otC l[i]) rfl rfl (by rw [Int.toNat_natCast]; have h9:=or_at hrw (i:=k) (by omega); rw [hxk] at h9; exact h9) rfl TL.fin) ?_
          refine DR.stepV [_,_,_,_,_,_,_,_] rfl [(7,_,none),(46,_,some 2)] rfl rfl ⟨⟨rfl,by kernel_rfl⟩,⟨rfl,rfl,rfl⟩,trivial⟩ (fun ext=>TL.on rfl rfl rfl (by simp; omega) <| TL.move hF rfl rfl TL.fin) ?_
          refine DR.stepV [_,_,_,_,_,_,_,_,_] rfl [(9,_,none),(46,_,some 2)] rfl rfl ⟨⟨rfl,by kernel_rfl⟩,⟨rfl,rfl,rfl⟩,trivial⟩ (fun ext=>TL.on rfl rfl rfl (by simp; omega) <| TL.move hF rfl rfl TL.fin) ?_
          refine DR.stepV [_,_,_,_,_,_,_,_,_,_] rfl [(52,_,some 8),(46,_,some 2)] rfl rfl ⟨⟨rfl,rfl,rfl⟩,⟨rfl,rfl,rfl⟩,trivial⟩ (fun ext=>TL.on rfl rfl rfl (by simp; omega) <| TL.sub hF rfl rfl (by first | omega | (dsimp only; omega)) (by first | omega | (dsimp only; omega)) rfl TL.fin) ?_
          refine DR.stepV [_,_,_,_,_,_,_,_,_,_,_] rfl [(51,_,some 7),(53,_,some 9),(46,_,some 2)] rfl rfl ⟨⟨rfl,rfl,rfl⟩,⟨rfl,rfl,rfl⟩,⟨rfl,rfl,rfl⟩,trivial⟩ (fun ext=>TL.on rfl rfl rfl (by simp; omega) <| TL.indexAddr hF rfl rfl (or_ad hrw (i:=k - 1) (by omega)) (by first | omega | (dsimp only; omega)) (by first | omega | (dsimp only; omega)) rfl TL.fin) ?_
          refine DR.stepV [_,_,_,_,_,_,_,_,_,_,_,_] rfl [(54,_,some 10),(46,_,some 2)] rfl rfl ⟨⟨rfl,rfl,rfl⟩,⟨rfl,rfl,rfl⟩,trivial⟩ (fun ext=>TL.on rfl rfl rfl (by simp; omega) <| TL.loadA hF (otC (overS (l.take i) before mark)[k - 1]) rfl rfl (by rw [show ((k:Int)-1).toNat=k - 1 by omega]; have h9:=or_at hrw (i:=k - 1) (by omega); rw [mvO_before (show k - 1<k by omega) hk] at h9; exact h9) rfl TL.fin) ?_
          refine DR.done [(55,_),(54,_),(53,_),(52,_),(51,_),(50,_),(49,_),(48,_),(47,_),(46,_),(45,_),(44,_)] [_,_] mixed (by kernel_rfl) (by kernel_rfl) (by kernel_rfl) rfl rfl ?_
          refine TL.on rfl rfl rfl (by simp; omega) ?_
          refine TL.callV hF (sooner_fn l[i] (overS (l.take i) before mark)[k - 1]) rfl rfl ?_
          refine TL.pickT hF rfl (by simp; omega) rfl rfl ?_
          refine TL.nil ?_
          refine TQ.then_n ?_
          refine T.cond _ rfl (fun ht57=>?_) (fun ht57=>?_)
          · refine T.skip ?_
            refine TQ.then_n ?_
            refine T.seq ?_
            refine T.block ?_
            refine T.seq ?_
            refine T.region ?_
            refine TL.move hF rfl rfl ?_
            refine TL.move hF rfl rfl ?_
            refine TL.indexAddr hF rfl rfl (or_ad hrw (i:=k) (by omega)) (by first | omega | (dsimp only; omega)) (by first | omega | (dsimp only; omega)) rfl ?_
            refine TL.loadA hF (otC l[i]) rfl rfl (by rw [Int.toNat_natCast]; have h9:=or_at hrw (i:=k) (by omega); rw [hxk] at h9; exact h9) rfl ?_
            refine TL.alloc hF rfl (fun b10=>?_)
            refine TL.storeAs hF (otC l[i]) (otC l[i]) 0 (cs:=[.int .i64 0,.int .i64 0,.int .i64 0,.int .i64 0]) rfl rfl rfl rfl (otC1 _) (Nat.le_refl 4) rfl ?_
            refine TL.nil ?_
            refine TQ.then_n ?_
            have hrw2:ORow S w0 ([(b10,Obj.cells (otC l[i]).toArray 59 (0,0))]::[(g,Obj.cells (cur).toArray 59 (0,0))]::η) (some ⟨g,0,none⟩) (mvO (overS (l.take i) before mark) l[i] k):=hc.row (List.mem_cons_of_mem _ List.mem_cons_self)
            have hc':OSl 59 4 (.slice (some ⟨g,0,none⟩) (mvO (overS (l.take i) before mark) l[i] k).length pc) (mvO (overS (l.take i) before mark) l[i] k).length ((mvO (overS (l.take i) before mark) l[i] k).flatMap otC) [(g,Obj.cells (cur).toArray 59 (0,0))]:=by rw [hml]; exact hc
            obtain ⟨hs1,hb1⟩:=osl_rowL (k:=k) (x:=(overS (l.take i) before mark)[k - 1]) hc' (by omega)
            have hs1':OSl 59 4 (.slice (some ⟨g,0,none⟩) ((mvO (overS (l.take i) before mark) l[i] k).set k (overS (l.take i) before mark)[k - 1]).length pc) ((mvO (overS (l.take i) before mark) l[i] k).set k (overS (l.take i) before mark)[k - 1]).length (((mvO (overS (l.take i) before mark) l[i] k).set k (overS (l.take i) before mark)[k - 1]).flatMap otC) [(g,Obj.cells ((cur.take (k*4)++otC (overS (l.take i) before mark)[k - 1]++cur.drop (k*4+4))).toArray 59 (0,0))]:=by rw [List.length_set]; exact hs1
            obtain ⟨hs2,hb2⟩:=osl_rowL (k:=k - 1) (x:=l[i]) hs1' (by rw [List.length_set]; omega)
            have hsw:=mvO_swap (out:=(overS (l.take i) before mark)) (x:=l[i]) (k:=k - 1) (by omega)
            rw [show k - 1+1=k by omega] at hsw
            rw [hsw,List.length_set,hml] at hs2
            refine T.drawH 13 mixed ?_
            refine DH.pure (i:=0) [(7,_,none)] rfl rfl rfl rfl ⟨⟨rfl,by kernel_rfl⟩,trivial⟩ (fun _ ext=>TL.move hF rfl rfl TL.fin) ?_
            refine DH.pure (i:=1) [(9,_,none)] rfl rfl rfl rfl ⟨⟨rfl,by kernel_rfl⟩,trivial⟩ (fun _ ext=>TL.move hF rfl rfl TL.fin) ?_
            refine DH.pure (i:=2) [(7,_,none)] rfl rfl rfl rfl ⟨⟨rfl,by kernel_rfl⟩,trivial⟩ (fun _ ext=>TL.move hF rfl rfl TL.fin) ?_
            refine DH.pure (i:=3) [(9,_,none)] rfl rfl rfl rfl ⟨⟨rfl,by kernel_rfl⟩,trivial⟩ (fun _ ext=>TL.move hF rfl rfl TL.fin) ?_
            refine DH.pure (i:=4) [(67,_,some 3)] rfl rfl rfl rfl ⟨⟨rfl,rfl,rfl⟩,trivial⟩ (fun _ ext=>TL.sub hF rfl rfl (by first | omega | (dsimp only; omega)) (by first | omega | (dsimp only; omega)) rfl TL.fin) ?_
            refine DH.pure (i:=5) [(7,_,none)] rfl rfl rfl rfl ⟨⟨rfl,by kernel_rfl⟩,trivial⟩ (fun _ ext=>TL.move hF rfl rfl TL.fin) ?_
            refine DH.pure (i:=6) [(9,_,none)] rfl rfl rfl rfl ⟨⟨rfl,by kernel_rfl⟩,trivial⟩ (fun _ ext=>TL.move hF rfl rfl TL.fin) ?_
            refine DH.pure (i:=7) [(70,_,some 6)] rfl rfl rfl rfl ⟨⟨rfl,rfl,rfl⟩,trivial⟩ (fun _ ext=>TL.sub hF rfl rfl (by first | omega | (dsimp only; omega)) (by first | omega | (dsimp only; omega)) rfl TL.fin) ?_
            refine DH.pure (i:=8) [(69,_,some 5),(71,_,some 7)] rfl rfl rfl rfl ⟨⟨rfl,rfl,rfl⟩,⟨rfl,rfl,rfl⟩,trivial⟩ (fun _ ext=>TL.indexAddr hF rfl rfl (or_ad hrw (i:=k - 1) (by omega)) (by first | omega | (dsimp only; omega)) (by first | omega | (dsimp only; omega)) rfl TL.fin) ?_
            refine DH.read (i:=9) [(72,_,some 8)] rfl rfl rfl rfl ⟨⟨rfl,rfl,rfl⟩,trivial⟩ (fun ext=>TL.loadA hF (otC (overS (l.take i) before mark)[k - 1]) rfl rfl (by rw [show ((k:Int)-1).toNat=k - 1 by omega]; have h9:=or_at hrw2 (i:=k - 1) (by omega); rw [mvO_before (show k - 1<k by omega) hk] at h9; exact h9) rfl TL.fin) ?_
            refine DH.read (i:=10) [(10,_,none)] rfl rfl rfl rfl ⟨⟨rfl,by kernel_rfl⟩,trivial⟩ (fun ext=>TL.loadA hF (otC l[i]) rfl rfl (own_listM (b:=b10) (cs:=otC l[i]) (e:=59) (fz:=(0,0)) (by simp)) rfl TL.fin) ?_
            refine DH.pure (i:=11) [(64,_,some 0),(65,_,some 1)] rfl rfl rfl rfl ⟨⟨rfl,rfl,rfl⟩,⟨rfl,rfl,rfl⟩,trivial⟩ (fun _ ext=>TL.indexAddr hF rfl rfl ⟨_,rfl,rfl⟩ (by first | omega | (dsimp only; omega)) (by first | omega | (dsimp only; omega)) rfl TL.fin) ?_
            refine DH.k1 (by kernel_rfl) (by kernel_rfl) (by kernel_rfl) (by kernel_rfl) (HBK.mk (h:=12) [10] [(75,_,some 11),(73,_,some 9)] rfl rfl rfl ⟨⟨rfl,rfl,rfl⟩,⟨rfl,rfl,rfl⟩,trivial⟩ (by kernel_rfl) (fun ext=>?_))
            refine TL.storeAs hF (otC (overS (l.take i) before mark)[k - 1]) (cur.take (k*4)++otC (overS (l.take i) before mark)[k - 1]++cur.drop (k*4+4)) 1 (cs:=cur) rfl rfl rfl rfl (otC1 _) (by simpa [sAt,otC_len] using hb1) (by simp [otC_len]) ?_
            refine TL.finKN ⟨⟨_,rfl,_,_,[(10,_,none)],rfl,rfl,⟨⟨rfl,by kernel_rfl⟩,trivial⟩,fun ext=>TL.loadA hF (otC l[i]) rfl rfl (own_listM (b:=b10) (cs:=otC l[i]) (e:=59) (fz:=(0,0)) (by simp)) rfl TL.fin⟩,trivial⟩ ?_
            refine DH.done [(75,_),(74,_),(73,_),(72,_),(71,_),(70,_),(69,_),(68,_),(67,_),(66,_),(65,_),(64,_)] [_,_] (by kernel_rfl) (by kernel_rfl) (by kernel_rfl) (by kernel_rfl) rfl rfl ?_
            refine TL.indexAddr hF rfl rfl ⟨_,rfl,rfl⟩ (by first | omega | (dsimp only; omega)) (by first | omega | (dsimp only; omega)) rfl ?_
            have hsub:((k:Int)-1).toNat=k - 1:=by omega
            refine TL.storeAs hF (otC l[i]) ((cur.take (k*4)++otC (overS (l.take i) before mark)[k - 1]++cur.drop (k*4+4)).take ((k - 1)*4)++otC l[i]++(cur.take (k*4)++otC (overS (l.take i) before mark)[k - 1]++cur.drop (k*4+4)).drop ((k - 1)*4+4)) 1 (cs:=(cur.take (k*4)++otC (overS (l.take i) before mark)[k - 1]++cur.drop (k*4+4))) rfl rfl rfl rfl (otC1 _) (by rw [hsub]; show 0+(k - 1)*4+4≤_; rw [Nat.zero_add]; exact hb2) (by rw [hsub]; simp [otC_len]) ?_
            refine TL.nil ?_
            refine TQ.block_n ?_
            refine TQ.then_n ?_
            refine T.region ?_
            refine TL.move hF rfl rfl ?_
            refine TL.sub hF rfl rfl (by first | omega | (dsimp only; omega)) (by first | omega | (dsimp only; omega)) rfl ?_
            refine TL.assign hF rfl rfl ?_
            refine TL.nil ?_
            have hlt:tLt l[i] (overS (l.take i) before mark)[k - 1]=true:=ht57
            refine TQ.pop ?_
            refine TQ.round (k - 1,_) ⟨by dsimp only; omega,fun y hy=>?_,by dsimp only; exact hs2⟩ (by dsimp only; omega) ⟨rfl,rfl,rfl,rfl,rfl,rfl,congrArg (fun z=>some (Value.int .i64 z)) (by first | omega | (dsimp only; omega)),trivial⟩ (by simp)
            rw [List.drop_eq_getElem_cons (by omega),show k - 1+1=k by omega] at hy
            rcases List.mem_cons.1 hy with rfl | hy
            · exact hlt
            · exact hq y hy
          · refine T.exit ?_
            refine TQ.then_x ?_
            refine TQ.then_x ?_
            refine TQ.block_x ?_
            refine TQ.block_n ?_
            refine TQ.then_n ?_
            refine T.region ?_
            refine TL.move hF rfl rfl ?_
            refine TL.add hF rfl rfl (by first | omega | (dsimp only; omega)) (by first | omega | (dsimp only; omega)) rfl ?_
            refine TL.assign hF rfl rfl ?_
            refine TL.nil ?_
            have hyes:isOver before mark l[i]=true:=by
              unfold isOver
              have h9:(decide (l[i].to≤before) || decide (mark<l[i].to))=false:=ht33
              rw [Bool.or_eq_false_iff,decide_eq_false_iff_not,decide_eq_false_iff_not] at h9
              rw [Bool.and_eq_true,decide_eq_true_eq,decide_eq_true_eq]
              omega
            rw [hyes,if_pos rfl] at hst
            have hup:TUp (overS (l.take i) before mark):=over_up (l:=l.take i) (hu.sublist (List.take_sublist _ _)) before mark
            have hins:insT l[i] (overS (l.take i) before mark)=(mvO (overS (l.take i) before mark) l[i] k):=by
              have h9:=insT_at (x:=l[i]) (P:=(overS (l.take i) before mark).take k) (Q:=(overS (l.take i) before mark).drop k) (by
                have hk9:(overS (l.take i) before mark).take k=(overS (l.take i) before mark).take (k - 1)++[(overS (l.take i) before mark)[k - 1]]:=by
                  have h8:=List.take_succ_eq_append_getElem (l:=(overS (l.take i) before mark)) (i:=k - 1) (by omega)
                  rwa [show k - 1+1=k by omega] at h8
                rw [hk9]
                exact low_of (by rw [← hk9]; exact hup.sublist (List.take_sublist _ _)) ht57) hq
              rwa [List.take_append_drop] at h9
            exact TQ.round (i+1,some ⟨g,0,none⟩,pc,[(g,Obj.cells (cur).toArray 59 (0,0))]) ⟨hil,by dsimp only; rw [hst,hins,hml]; exact hc⟩ (by dsimp only; omega) ⟨rfl,rfl,rfl,rfl,by dsimp only; rw [hst,hins,hml]; rfl,rfl,trivial⟩ rfl
        · refine T.draw ?_
          refine DR.stepV [_] rfl [(9,_,none)] rfl rfl ⟨⟨rfl,by kernel_rfl⟩,trivial⟩ (fun ext=>TL.move hF rfl rfl TL.fin) ?_
          refine DR.stepV [_,_] rfl [(44,_,some 0)] rfl rfl ⟨⟨rfl,rfl,rfl⟩,trivial⟩ (fun ext=>TL.bin hF rfl rfl rfl rfl TL.fin) ?_
          refine DR.stepV [_,_,_] rfl [(45,_,some 1)] rfl rfl ⟨⟨rfl,rfl,rfl⟩,trivial⟩ (fun ext=>TL.move hF rfl rfl TL.fin) ?_
          refine DR.stepV [_,_,_,_] rfl [(7,_,none),(46,_,some 2)] rfl rfl ⟨⟨rfl,by kernel_rfl⟩,⟨rfl,rfl,rfl⟩,trivial⟩ (fun ext=>TL.off hF rfl rfl rfl (by simp; omega) rfl TL.fin) ?_
          refine DR.stepV [_,_,_,_,_] rfl [(9,_,none),(46,_,some 2)] rfl rfl ⟨⟨rfl,by kernel_rfl⟩,⟨rfl,rfl,rfl⟩,trivial⟩ (fun ext=>TL.off hF rfl rfl rfl (by simp; omega) rfl TL.fin) ?_
          refine DR.stepV [_,_,_,_,_,_] rfl [(47,_,some 3),(48,_,some 4),(46,_,some 2)] rfl rfl ⟨⟨rfl,rfl,rfl⟩,⟨rfl,rfl,rfl⟩,⟨rfl,rfl,rfl⟩,trivial⟩ (fun ext=>TL.off hF rfl rfl rfl (by simp; omega) rfl TL.fin) ?_
          refine DR.stepV [_,_,_,_,_,_,_] rfl [(49,_,some 5),(46,_,some 2)] rfl rfl ⟨⟨rfl,rfl,rfl⟩,⟨rfl,rfl,rfl⟩,trivial⟩ (fun ext=>TL.off hF rfl rfl rfl (by simp; omega) rfl TL.fin) ?_
          refine DR.stepV [_,_,_,_,_,_,_,_] rfl [(7,_,none),(46,_,some 2)] rfl rfl ⟨⟨rfl,by kernel_rfl⟩,⟨rfl,rfl,rfl⟩,trivial⟩ (fun ext=>TL.off hF rfl rfl rfl (by simp; omega) rfl TL.fin) ?_
          refine DR.stepV [_,_,_,_,_,_,_,_,_] rfl [(9,_,none),(46,_,some 2)] rfl rfl ⟨⟨rfl,by kernel_rfl⟩,⟨rfl,rfl,rfl⟩,trivial⟩ (fun ext=>TL.off hF rfl rfl rfl (by simp; omega) rfl TL.fin) ?_
          refine DR.stepV [_,_,_,_,_,_,_,_,_,_] rfl [(52,_,some 8),(46,_,some 2)] rfl rfl ⟨⟨rfl,rfl,rfl⟩,⟨rfl,rfl,rfl⟩,trivial⟩ (fun ext=>TL.off hF rfl rfl rfl (by simp; omega) rfl TL.fin) ?_
          refine DR.stepV [_,_,_,_,_,_,_,_,_,_,_] rfl [(51,_,some 7),(53,_,some 9),(46,_,some 2)] rfl rfl ⟨⟨rfl,rfl,rfl⟩,⟨rfl,rfl,rfl⟩,⟨rfl,rfl,rfl⟩,trivial⟩ (fun ext=>TL.off hF rfl rfl rfl (by simp; omega) rfl TL.fin) ?_
          refine DR.stepV [_,_,_,_,_,_,_,_,_,_,_,_] rfl [(54,_,some 10),(46,_,some 2)] rfl rfl ⟨⟨rfl,rfl,rfl⟩,⟨rfl,rfl,rfl⟩,trivial⟩ (fun ext=>TL.off hF rfl rfl rfl (by simp; omega) rfl TL.fin) ?_
          refine DR.done [(55,_),(54,_),(53,_),(52,_),(51,_),(50,_),(49,_),(48,_),(47,_),(46,_),(45,_),(44,_)] [_,_] mixed (by kernel_rfl) (by kernel_rfl) (by kernel_rfl) rfl rfl ?_
          refine TL.off hF rfl rfl rfl (by simp; omega) rfl ?_
          refine TL.pickF hF rfl (by simp; omega) rfl rfl ?_
          refine TL.nil ?_
          refine TQ.then_n ?_
          refine T.cond_f rfl rfl ?_
          refine T.exit ?_
          refine TQ.then_x ?_
          refine TQ.then_x ?_
          refine TQ.block_x ?_
          refine TQ.block_n ?_
          refine TQ.then_n ?_
          refine T.region ?_
          refine TL.move hF rfl rfl ?_
          refine TL.add hF rfl rfl (by first | omega | (dsimp only; omega)) (by first | omega | (dsimp only; omega)) rfl ?_
          refine TL.assign hF rfl rfl ?_
          refine TL.nil ?_
          have hyes:isOver before mark l[i]=true:=by
            unfold isOver
            have h9:(decide (l[i].to≤before) || decide (mark<l[i].to))=false:=ht33
            rw [Bool.or_eq_false_iff,decide_eq_false_iff_not,decide_eq_false_iff_not] at h9
            rw [Bool.and_eq_true,decide_eq_true_eq,decide_eq_true_eq]
            omega
          rw [hyes,if_pos rfl] at hst
          have hup:TUp (overS (l.take i) before mark):=over_up (l:=l.take i) (hu.sublist (List.take_sublist _ _)) before mark
          have hins:insT l[i] (overS (l.take i) before mark)=(mvO (overS (l.take i) before mark) l[i] k):=by
            have h9:=insT_at (x:=l[i]) (P:=(overS (l.take i) before mark).take k) (Q:=(overS (l.take i) before mark).drop k) (by rw [show k=0 by omega]; simp) hq
            rwa [List.take_append_drop] at h9
          exact TQ.round (i+1,some ⟨g,0,none⟩,pc,[(g,Obj.cells (cur).toArray 59 (0,0))]) ⟨hil,by dsimp only; rw [hst,hins,hml]; exact hc⟩ (by dsimp only; omega) ⟨rfl,rfl,rfl,rfl,by dsimp only; rw [hst,hins,hml]; rfl,rfl,trivial⟩ rfl
  · refine T.exit ?_
    refine TQ.then_x ?_
    refine TQ.then_x ?_
    refine TQ.block_x ?_
    refine TQ.then_n ?_
    refine T.seq ?_
    refine T.region ?_
    refine TL.move hF rfl rfl ?_
    refine TL.assign hF rfl rfl ?_
    refine TL.nil ?_
    refine TQ.then_n ?_
    refine T.ret ?_
    have hie:l.length≤i:=by have h:¬ (i:Int)<(l.length:Int):=ht15; omega
    rw [List.take_of_length_le hie] at ho ⊢
    exact TQ.rets [6] _ rfl rfl rfl ⟨oa,oc,og,rfl,ho,rfl⟩
end Go.Proofs.YtbajelldegijkaaDoor
/- The reference: Play, walked. -/
namespace Go.Proofs.YtbajelldegijkaaDoor
open Go.Sl
variable {S:Nat→Prop} {w0:World} {η:Heap}
structure PR where
  i:Nat
  xs:List SH
  had:List Rw
  mark:Int
  H:Heap
  la:Option Addr
  lc:Nat
  lg:Seg
  ha:Option Addr
  hc:Nat
  hg:Seg
def lftTo (L:List Ot) (mark:Int) (j:Nat):List Ot:=(L.take j).filter fun x=>decide (mark<x.to)
theorem lftTo_len (L:List Ot) (mark:Int) (j:Nat):(lftTo L mark j).length≤j:=by
  unfold lftTo
  have h1:=List.length_filter_le (fun x:Ot=>decide (mark<x.to)) (L.take j)
  have h2:=List.length_take_le j L
  omega
theorem lftTo_step {L:List Ot} {mark:Int} {j:Nat} (h:j<L.length):lftTo L mark (j+1)=if mark<L[j].to then lftTo L mark j++[L[j]] else lftTo L mark j:=by
  unfold lftTo
  rw [List.take_succ_eq_append_getElem h,List.filter_append]
  split
  · rename_i q; rw [List.filter_cons_of_pos (by simpa using q)]; rfl
  · rename_i q; rw [List.filter_cons_of_neg (by simpa using q)]; simp
set_option maxHeartbeats 8000000 in
theorem PlayR_fn {s : Wsp} {a : Option Addr} {l : List Rw} {c : Nat} (hr : RRow S w0 η a l) (hl : l.length < 9223372036854775808) :
    Rt Tryd.prog 22 [wsV s,.slice a l.length c].toArray S w0 η (fun v η'=>∃ la lc xs oa oc segs,v = .tuple #[.slice la xs.length lc,.slice oa (playS s l).2.1.length oc,.int .i64 (playS s l).2.2]∧xs.map (·.st)=(playS s l).1∧SLs S w0 segs la xs∧ORow S w0 segs oa (playS s l).2.1∧η'=segs++η):=by
  have hF:=open_wide
  refine Rt.of (fn:=Tryd.f22) Tryd.func22 rfl rfl ?_
  refine T.seq ?_
  refine T.region ?_
  refine TL.box hF rfl rfl (fun b2=>?_)
  refine TL.assign hF rfl rfl ?_
  refine TL.assign hF rfl rfl ?_
  refine TL.assign hF rfl rfl ?_
  refine TL.nil ?_
  refine TQ.then_n ?_
  refine T.seq ?_
  refine T.seq ?_
  refine T.region ?_
  refine TL.loadA hF (wsC s) rfl rfl (own_list (i:=0) (cs:=wsC s) rfl) rfl ?_
  refine TL.move hF rfl rfl ?_
  refine TL.callV hF (askedR_fn (s:=s) (hr.up (fun _ hs=>List.mem_cons_of_mem _ hs)) hl) rfl rfl ?_
  refine TL.assign hF rfl rfl ?_
  refine TL.nil ?_
  refine TQ.then_n ?_
  refine T.seq ?_
  refine T.region ?_
  refine TL.move hF rfl rfl ?_
  refine TL.bin hF rfl rfl rfl rfl ?_
  refine TL.nil ?_
  refine TQ.then_n ?_
  refine T.cond _ rfl (fun ht20=>?_) (fun ht20=>?_)
  · refine T.seq ?_
    refine T.region ?_
    refine TL.move hF rfl rfl ?_
    refine TL.assign hF rfl rfl ?_
    refine TL.assign hF rfl rfl ?_
    refine TL.assign hF rfl rfl ?_
    refine TL.nil ?_
    refine TQ.then_n ?_
    refine T.ret ?_
    refine TQ.then_r ?_
    have ha:¬ askedS s l=0:=by simpa using ht20
    refine TQ.rets [4,5,6] _ rfl rfl rfl ?_
    have e:playS s l=([],[],askedS s l):=by unfold playS; rw [if_neg ha]
    rw [e]
    exact ⟨none,0,[],none,0,[_],rfl,rfl,⟨Row.none,by simp⟩,Row.none,rfl⟩
  · refine T.skip ?_
    refine TQ.then_n ?_
    refine T.seq ?_
    refine T.region ?_
    refine TL.buildSlice hF rfl (cs:=#[]) (e:=42) (fun w=>by kernel_rfl) rfl (fun b22=>?_)
    refine TL.buildSlice hF rfl (cs:=#[]) (e:=57) (fun w=>by kernel_rfl) rfl (fun b23=>?_)
    refine TL.assign hF rfl rfl ?_
    refine TL.assign hF rfl rfl ?_
    refine TL.assign hF rfl rfl ?_
    refine TL.nil ?_
    refine TQ.then_n ?_
    refine T.seq ?_
    refine T.seq ?_
    refine T.region ?_
    refine TL.assign hF rfl rfl ?_
    refine TL.nil ?_
    refine TQ.then_n ?_
    refine T.block ?_
    have ha:askedS s l=0:=by simpa using ht20
    rw [ha]
    have hq:=askd_of ha
    have hsz:=hq.size
    have hqlen:=hq.len
    refine T.pick [1,0] [_,_] rfl rfl rfl ?_
    refine T.heap (η':=[(b22,Obj.cells #[] 42 (0,0))]::[(b23,Obj.cells #[] 57 (0,0))]::([]++([(b2,Obj.cells (wsC s).toArray 23 (0,0))]::η))) rfl ?_
    refine T.loop (ι:=PR) (fun z=>z.i≤l.length∧runS s (l.take z.i)=(z.xs.map (·.st),z.had,z.mark)∧(∀ q∈z.had,q∈l)∧z.had.length≤z.i∧(0≤z.mark∧z.mark≤1048576)∧OSl 42 2 (.slice z.la z.xs.length z.lc) z.xs.length (z.xs.flatMap shC) z.lg∧(∀ x∈z.xs,ORow S w0 z.H x.a x.st.outs)∧z.xs.length=z.i∧OSl 57 3 (.slice z.ha z.had.length z.hc) z.had.length (z.had.flatMap rwC) z.hg) (fun z=>[(1,.slice a l.length c),(2,ptr b2),(4,.slice none 0 0),(5,.slice none 0 0),(6,.int .i64 0),(8,.slice z.la z.xs.length z.lc),(9,.slice z.ha z.had.length z.hc),(10,.int .i64 z.mark),(11,.int .i64 (z.i:Int))]) (fun z=>z.lg::z.hg::(z.H++([(b2,Obj.cells (wsC s).toArray 23 (0,0))]::η))) (fun z=>l.length - z.i) ⟨0,[],[],0,[],some ⟨b22,0,none⟩,0,[(b22,Obj.cells #[] 42 (0,0))],some ⟨b23,0,none⟩,0,[(b23,Obj.cells #[] 57 (0,0))]⟩ ⟨Nat.zero_le _,rfl,by simp,Nat.le_refl _,by simp,osl_empty,by simp,rfl,osl_empty⟩ ⟨rfl,rfl,rfl,rfl,rfl,rfl,rfl,rfl,rfl,trivial⟩ rfl ?_
    rintro ⟨i,xs,had,mark,HH,la,lc,lg,ga,gc,gg⟩ ⟨hi,hrun,hin,hhl,hmk,hxo,hxi,hxl,hho⟩
    dsimp only at hi hrun hin hhl hmk hxo hxi hxl hho
    refine T.seq ?_
    refine T.seq ?_
    refine T.region ?_
    refine TL.move hF rfl rfl ?_
    refine TL.move hF rfl rfl ?_
    refine TL.len hF rfl rfl ?_
    refine TL.bin hF rfl rfl rfl rfl ?_
    refine TL.nil ?_
    refine TQ.then_n ?_
    first | refine T.cond_d rfl (fun ht27=>?_) (fun ht27=>?_) | refine T.cond _ rfl (fun ht27=>?_) (fun ht27=>?_)
    · refine T.skip ?_
      refine TQ.then_n ?_
      refine T.seq ?_
      refine T.block ?_
      refine T.seq ?_
      refine T.seq ?_
      refine T.region ?_
      have hil:i<l.length:=by have h:(i:Int)<(l.length:Int):=ht27; omega
      have hri:=(hq.row (List.getElem_mem hil)).1
      refine TL.move hF rfl rfl ?_
      refine TL.move hF rfl rfl ?_
      refine TL.indexAddr hF rfl rfl (rr_ad hr hil) (by first | omega | (dsimp only; omega)) (by first | omega | (dsimp only; omega)) rfl ?_
      refine TL.fieldAddr hF rfl rfl ?_
      refine TL.load hF rfl (rr_at (hr.up (fun _ hs=>by simp [hs])) hil 0 _ rfl) rfl ?_
      refine TL.move hF rfl rfl ?_
      refine TL.bin hF rfl rfl rfl rfl ?_
      refine TL.nil ?_
      refine TQ.then_n ?_
      refine T.cond_d rfl (fun ht36=>?_) (fun ht36=>?_)
      · refine T.seq ?_
        refine T.region ?_
        refine TL.move hF rfl rfl ?_
        refine TL.build hF rfl (r:=.agg #[.slice none 0 0,.bool true]) (fun w=>by kernel_rfl) rfl ?_
        refine TL.buildSlice hF rfl (cs:=(shC (⟨⟨true,[]⟩,none,0⟩:SH)).toArray) (e:=42) (fun w=>by kernel_rfl) rfl (fun bq=>?_)
        refine TL.append hF 1 rfl rfl rfl hxo (row_own (cs:=shC (⟨⟨true,[]⟩,none,0⟩:SH)) (e:=42) (b:=bq) (by simp)).src rfl rfl (shC1 (⟨⟨true,[]⟩,none,0⟩:SH)) (by omega) (by omega) rfl (fun pa pc pg ph=>?_)
        rw [flat_snoc] at ph
        refine TL.assign hF rfl rfl ?_
        refine TL.nil ?_
        refine TQ.then_n ?_
        refine T.exit ?_
        refine TQ.then_x ?_
        refine TQ.block_x ?_
        refine TQ.then_n ?_
        refine T.region ?_
        refine TL.move hF rfl rfl ?_
        refine TL.add hF rfl rfl (by first | omega | (dsimp only; omega)) (by first | omega | (dsimp only; omega)) rfl ?_
        refine TL.assign hF rfl rfl ?_
        refine TL.nil ?_
        have hlg:(xs++[(⟨⟨true,[]⟩,none,0⟩:SH)]).length=xs.length+1:=by simp
        refine TQ.heap (η':=[(bq,Obj.cells (shC (⟨⟨true,[]⟩,none,0⟩:SH)).toArray 42 (0,0))]::pg::gg::(HH++([(b2,Obj.cells (wsC s).toArray 23 (0,0))]::η))) rfl ?_
        refine TQ.pop ?_
        refine TQ.round ⟨i+1,xs++[(⟨⟨true,[]⟩,none,0⟩:SH)],had,mark,HH,pa,pc,pg,ga,gc,gg⟩ ⟨hil,?_,hin,by dsimp only; omega,hmk,by dsimp only; rw [hlg]; exact ph,fun y hy=>?_,by dsimp only; rw [hlg,hxl],hho⟩ (by dsimp only; omega) ⟨rfl,rfl,rfl,rfl,rfl,by dsimp only; rw [hlg]; rfl,rfl,rfl,rfl,trivial⟩ rfl
        · dsimp only
          rw [List.take_succ_eq_append_getElem hil,runS_snoc,hrun,List.map_append]
          unfold stepS
          rw [if_pos (show l[i].time<mark from ht36)]; rfl
        · rcases List.mem_append.1 hy with h | h
          · exact hxi y h
          · rw [List.mem_singleton.1 h]; exact Row.none
      · refine T.skip ?_
        refine TQ.then_n ?_
        refine T.seq ?_
        refine T.region ?_
        refine TL.move hF rfl rfl ?_
        refine TL.move hF rfl rfl ?_
        refine TL.move hF rfl rfl ?_
        refine TL.indexAddr hF rfl rfl (rr_ad hr hil) (by first | omega | (dsimp only; omega)) (by first | omega | (dsimp only; omega)) rfl ?_
        refine TL.loadA hF (rwC l[i]) rfl rfl (rr_at (hr.up (fun _ hs=>by simp [hs])) hil) rfl ?_
        refine TL.buildSlice hF rfl (cs:=(rwC l[i]).toArray) (e:=57) (fun w=>by kernel_rfl) rfl (fun br=>?_)
        refine TL.append hF 2 rfl rfl rfl hho (row_own (cs:=rwC l[i]) (e:=57) (b:=br) (by simp)).src rfl rfl (rwC1 _) (by omega) (by omega) rfl (fun ga gc gg gh=>?_)
        rw [flat_snoc] at gh
        have ghl:(had++[l[i]]).length=had.length+1:=by simp
        rw [← ghl] at gh ⊢
        have hq2:Askd s (had++[l[i]]):=hq.sub (fun q h=>by
          rcases List.mem_append.1 h with h | h
          · exact hin q h
          · rw [List.mem_singleton.1 h]; exact List.getElem_mem hil) (by omega)
        have hal:=all_len hq2
        refine TL.assign hF rfl rfl ?_
        refine TL.nil ?_
        refine TQ.then_n ?_
        refine T.seq ?_
        refine T.draw ?_
        refine DR.stepV [_] rfl [(10,_,none)] rfl rfl ⟨⟨rfl,by kernel_rfl⟩,trivial⟩ (fun ext=>TL.move hF rfl rfl TL.fin) ?_
        refine DR.stepV [_,_] rfl [(1,_,none)] rfl rfl ⟨⟨rfl,by kernel_rfl⟩,trivial⟩ (fun ext=>TL.move hF rfl rfl TL.fin) ?_
        refine DR.stepV [_,_,_] rfl [(11,_,none)] rfl rfl ⟨⟨rfl,by kernel_rfl⟩,trivial⟩ (fun ext=>TL.move hF rfl rfl TL.fin) ?_
        refine DR.stepV [_,_,_,_] rfl [(49,_,some 1),(50,_,some 2)] rfl rfl ⟨⟨rfl,rfl,rfl⟩,⟨rfl,rfl,rfl⟩,trivial⟩ (fun ext=>TL.indexAddr hF rfl rfl (rr_ad hr hil) (by first | omega | (dsimp only; omega)) (by first | omega | (dsimp only; omega)) rfl TL.fin) ?_
        refine DR.stepV [_,_,_,_,_] rfl [(51,_,some 3)] rfl rfl ⟨⟨rfl,rfl,rfl⟩,trivial⟩ (fun ext=>TL.fieldAddr hF rfl rfl TL.fin) ?_
        refine DR.stepV [_,_,_,_,_,_] rfl [(52,_,some 4)] rfl rfl ⟨⟨rfl,rfl,rfl⟩,trivial⟩ (fun ext=>TL.load hF rfl (rr_at (hr.up (fun _ hs=>by simp [hs])) hil 0 _ rfl) rfl TL.fin) ?_
        refine DR.stepV [_,_,_,_,_,_,_] rfl [(2,_,none)] rfl rfl ⟨⟨rfl,by kernel_rfl⟩,trivial⟩ (fun ext=>TL.fieldAddr hF rfl rfl TL.fin) ?_
        refine DR.stepV [_,_,_,_,_,_,_,_] rfl [(54,_,some 6)] rfl rfl ⟨⟨rfl,rfl,rfl⟩,trivial⟩ (fun ext=>TL.load hF rfl (show At _ _ _ _ (.int .i64 s.late) from own_mem (b:=b2) (cs:=(wsC s).toArray) (e:=23) (fz:=(0,0)) (by simp) rfl) rfl TL.fin) ?_
        refine DR.stepV [_,_,_,_,_,_,_,_,_] rfl [(53,_,some 5),(55,_,some 7)] rfl rfl ⟨⟨rfl,rfl,rfl⟩,⟨rfl,rfl,rfl⟩,trivial⟩ (fun ext=>TL.sub hF rfl rfl (by first | omega | (dsimp only; omega)) (by first | omega | (dsimp only; omega)) rfl TL.fin) ?_
        refine DR.done [(56,_),(55,_),(54,_),(53,_),(52,_),(51,_),(50,_),(49,_),(48,_)] [_,_] mixed (by kernel_rfl) (by kernel_rfl) (by kernel_rfl) rfl rfl ?_
        refine TL.max2 hF rfl rfl rfl ?_
        refine TL.assign hF rfl rfl ?_
        refine TL.nil ?_
        refine TQ.then_n ?_
        refine T.seq ?_
        refine T.region ?_
        refine TL.move hF rfl rfl ?_
        refine TL.loadA hF (wsC s) rfl rfl (own_listM (b:=b2) (cs:=wsC s) (e:=23) (fz:=(0,0)) (by simp)) rfl ?_
        refine TL.move hF rfl rfl ?_
        refine TL.call hF (AllR_fn (s:=s) (gh.row (by simp)) hq2) rfl rfl ?_
        rintro _ _ ⟨oa,oc,og,rfl,ho,rfl⟩
        refine TL.move hF rfl rfl ?_
        refine TL.move hF rfl rfl ?_
        refine TL.call hF (overR_fn (before:=mark) (mark:=(max mark (l[i].time - s.late))) (ho.row (by simp)) (by omega) (all_up hq2.w _)) rfl rfl ?_
        rintro _ _ ⟨va,vc,vg,rfl,hv,rfl⟩
        refine TL.build hF rfl (r:=.agg #[.slice va (overS (allS s (had++[l[i]])) mark (max mark (l[i].time - s.late))).length vc,.bool false]) (fun w=>by kernel_rfl) rfl ?_
        refine TL.buildSlice hF rfl (cs:=(shC (⟨⟨false,(overS (allS s (had++[l[i]])) mark (max mark (l[i].time - s.late)))⟩,va,vc⟩:SH)).toArray) (e:=42) (fun w=>by kernel_rfl) rfl (fun bq=>?_)
        refine TL.append hF 4 rfl rfl rfl hxo (row_own (cs:=shC (⟨⟨false,(overS (allS s (had++[l[i]])) mark (max mark (l[i].time - s.late)))⟩,va,vc⟩:SH)) (e:=42) (b:=bq) (by simp)).src rfl rfl (shC1 (⟨⟨false,(overS (allS s (had++[l[i]])) mark (max mark (l[i].time - s.late)))⟩,va,vc⟩:SH)) (by omega) (by omega) rfl (fun pa pc pg ph=>?_)
        rw [flat_snoc] at ph
        refine TL.assign hF rfl rfl ?_
        refine TL.nil ?_
        refine TQ.then_n ?_
        refine T.region ?_
        refine TL.move hF rfl rfl ?_
        refine TL.assign hF rfl rfl ?_
        refine TL.nil ?_
        refine TQ.block_n ?_
        refine TQ.then_n ?_
        refine T.region ?_
        refine TL.move hF rfl rfl ?_
        refine TL.add hF rfl rfl (by first | omega | (dsimp only; omega)) (by first | omega | (dsimp only; omega)) rfl ?_
        refine TL.assign hF rfl rfl ?_
        refine TL.nil ?_
        have hlg:(xs++[(⟨⟨false,(overS (allS s (had++[l[i]])) mark (max mark (l[i].time - s.late)))⟩,va,vc⟩:SH)]).length=xs.length+1:=by simp
        refine TQ.heap (η':=[(bq,Obj.cells (shC (⟨⟨false,(overS (allS s (had++[l[i]])) mark (max mark (l[i].time - s.late)))⟩,va,vc⟩:SH)).toArray 42 (0,0))]::vg::og::[(br,Obj.cells (rwC l[i]).toArray 57 (0,0))]::pg::gg::(HH++([(b2,Obj.cells (wsC s).toArray 23 (0,0))]::η))) rfl ?_
        refine TQ.hperm ([(bq,Obj.cells (shC (⟨⟨false,(overS (allS s (had++[l[i]])) mark (max mark (l[i].time - s.late)))⟩,va,vc⟩:SH)).toArray 42 (0,0))]::og::[(br,Obj.cells (rwC l[i]).toArray 57 (0,0))]::pg::gg::((vg::HH)++([(b2,Obj.cells (wsC s).toArray 23 (0,0))]::η))) (perm_cnt fun f=>by simp only [List.map_append,List.map_cons,List.sum_append,List.sum_cons]; try omega) ?_
        refine TQ.pop (TQ.pop (TQ.pop ?_))
        refine TQ.round ⟨i+1,xs++[(⟨⟨false,(overS (allS s (had++[l[i]])) mark (max mark (l[i].time - s.late)))⟩,va,vc⟩:SH)],had++[l[i]],(max mark (l[i].time - s.late)),vg::HH,pa,pc,pg,ga,gc,gg⟩ ⟨hil,?_,fun q h=>?_,by dsimp only; omega,by dsimp only; omega,by dsimp only; rw [hlg]; exact ph,fun y hy=>?_,by dsimp only; rw [hlg,hxl],gh⟩ (by dsimp only; omega) ⟨rfl,rfl,rfl,rfl,rfl,by dsimp only; rw [hlg]; rfl,rfl,rfl,rfl,trivial⟩ rfl
        · dsimp only
          rw [List.take_succ_eq_append_getElem hil,runS_snoc,hrun,List.map_append]
          unfold stepS
          rw [if_neg (show ¬ l[i].time<mark from ht36)]; rfl
        · dsimp only at h
          rcases List.mem_append.1 h with h | h
          · exact hin q h
          · rw [List.mem_singleton.1 h]; exact List.getElem_mem hil
        · rcases List.mem_append.1 hy with h | h
          · exact (hxi y h).up (fun _ hs=>List.mem_cons_of_mem _ hs)
          · rw [List.mem_singleton.1 h]; exact hv.row List.mem_cons_self
    · refine T.exit ?_
      refine TQ.then_x ?_
      refine TQ.then_x ?_
      refine TQ.block_x ?_
      refine TQ.then_n ?_
      refine T.seq ?_
      refine T.region ?_
      have hie:i=l.length:=by have h:¬ (i:Int)<(l.length:Int):=ht27; omega
      subst hie
      rw [List.take_length] at hrun
      have hq3:Askd s had:=hq.sub hin (by omega)
      have hal:=all_len hq3
      refine TL.buildSlice hF rfl (cs:=#[]) (e:=59) (fun w=>by kernel_rfl) rfl (fun b69=>?_)
      refine TL.loadA hF (wsC s) rfl rfl (own_listM (b:=b2) (cs:=wsC s) (e:=23) (fz:=(0,0)) (by simp)) rfl ?_
      refine TL.move hF rfl rfl ?_
      refine TL.call hF (AllR_fn (s:=s) (hho.row (by simp)) hq3) rfl rfl ?_
      rintro _ _ ⟨oa,oc,og,rfl,ho,rfl⟩
      refine TL.assign hF rfl rfl ?_
      refine TL.assign hF rfl rfl ?_
      refine TL.nil ?_
      refine TQ.then_n ?_
      refine T.seq ?_
      refine T.seq ?_
      refine T.region ?_
      refine TL.assign hF rfl rfl ?_
      refine TL.nil ?_
      refine TQ.then_n ?_
      refine T.block ?_
      refine T.heap (η':=og::[(b69,Obj.cells #[] 59 (0,0))]::lg::gg::(HH++([(b2,Obj.cells (wsC s).toArray 23 (0,0))]::η))) rfl ?_
      refine T.pick [1,0,2] [_,_,_] rfl rfl rfl ?_
      refine T.loop (ι:=AI) (fun z=>z.i≤(allS s had).length∧OSl 59 4 (.slice z.a (lftTo (allS s had) mark z.i).length z.c) (lftTo (allS s had) mark z.i).length ((lftTo (allS s had) mark z.i).flatMap otC) z.g) (fun z=>[(4,.slice none 0 0),(5,.slice none 0 0),(6,.int .i64 0),(8,.slice la xs.length lc),(10,.int .i64 mark),(13,.slice z.a (lftTo (allS s had) mark z.i).length z.c),(14,.slice oa (allS s had).length oc),(15,.int .i64 (z.i:Int))]) (fun z=>z.g::og::lg::gg::(HH++([(b2,Obj.cells (wsC s).toArray 23 (0,0))]::η))) (fun z=>(allS s had).length - z.i) ⟨0,some ⟨b69,0,none⟩,0,[(b69,Obj.cells #[] 59 (0,0))]⟩ ⟨Nat.zero_le _,osl_empty⟩ ⟨rfl,rfl,rfl,rfl,rfl,rfl,rfl,rfl,trivial⟩ rfl ?_
      rintro ⟨j,fa,fc,fg⟩ ⟨hj,hf⟩
      dsimp only at hj hf
      have hfl:=lftTo_len (allS s had) mark j
      have hor:ORow S w0 (fg::og::lg::gg::(HH++([(b2,Obj.cells (wsC s).toArray 23 (0,0))]::η))) oa (allS s had):=ho.row (by simp)
      refine T.seq ?_
      refine T.seq ?_
      refine T.region ?_
      refine TL.move hF rfl rfl ?_
      refine TL.move hF rfl rfl ?_
      refine TL.len hF rfl rfl ?_
      refine TL.bin hF rfl rfl rfl rfl ?_
      refine TL.nil ?_
      refine TQ.then_n ?_
      first | refine T.cond_d rfl (fun ht76=>?_) (fun ht76=>?_) | refine T.cond _ rfl (fun ht76=>?_) (fun ht76=>?_)
      · refine T.skip ?_
        refine TQ.then_n ?_
        refine T.seq ?_
        refine T.block ?_
        refine T.seq ?_
        refine T.region ?_
        have hjl:j<(allS s had).length:=by have h:(j:Int)<((allS s had).length:Int):=ht76; omega
        have hst:=lftTo_step (mark:=mark) hjl
        refine TL.move hF rfl rfl ?_
        refine TL.move hF rfl rfl ?_
        refine TL.indexAddr hF rfl rfl (or_ad hor hjl) (by first | omega | (dsimp only; omega)) (by first | omega | (dsimp only; omega)) rfl ?_
        refine TL.fieldAddr hF rfl rfl ?_
        refine TL.load hF rfl (or_at hor hjl 1 _ rfl) rfl ?_
        refine TL.move hF rfl rfl ?_
        refine TL.bin hF rfl rfl rfl rfl ?_
        refine TL.nil ?_
        refine TQ.then_n ?_
        refine T.cond_d rfl (fun ht85=>?_) (fun ht85=>?_)
        · refine T.region ?_
          refine TL.move hF rfl rfl ?_
          refine TL.move hF rfl rfl ?_
          refine TL.move hF rfl rfl ?_
          refine TL.indexAddr hF rfl rfl (or_ad hor hjl) (by first | omega | (dsimp only; omega)) (by first | omega | (dsimp only; omega)) rfl ?_
          refine TL.loadA hF (otC (allS s had)[j]) rfl rfl (or_at hor hjl) rfl ?_
          refine TL.buildSlice hF rfl (cs:=(otC (allS s had)[j]).toArray) (e:=59) (fun w=>by kernel_rfl) rfl (fun bq=>?_)
          refine TL.append hF 1 rfl rfl rfl hf (row_own (cs:=otC (allS s had)[j]) (e:=59) (b:=bq) (by simp)).src rfl rfl (otC1 _) (by omega) (by omega) rfl (fun pa pc pg ph=>?_)
          rw [flat_snoc] at ph
          refine TL.assign hF rfl rfl ?_
          refine TL.nil ?_
          refine TQ.block_n ?_
          refine TQ.then_n ?_
          refine T.region ?_
          refine TL.move hF rfl rfl ?_
          refine TL.add hF rfl rfl (by first | omega | (dsimp only; omega)) (by first | omega | (dsimp only; omega)) rfl ?_
          refine TL.assign hF rfl rfl ?_
          refine TL.nil ?_
          rw [if_pos (show mark<(allS s had)[j].to from ht85)] at hst
          have hlg:(lftTo (allS s had) mark (j+1)).length=(lftTo (allS s had) mark j).length+1:=by rw [hst]; simp
          refine TQ.pop ?_
          exact TQ.round ⟨j+1,pa,pc,pg⟩ ⟨hjl,by dsimp only; rw [hlg,hst]; exact ph⟩ (by dsimp only; omega) ⟨rfl,rfl,rfl,rfl,rfl,by dsimp only; rw [hlg]; rfl,rfl,rfl,trivial⟩ rfl
        · refine T.skip ?_
          refine TQ.block_n ?_
          refine TQ.then_n ?_
          refine T.region ?_
          refine TL.move hF rfl rfl ?_
          refine TL.add hF rfl rfl (by first | omega | (dsimp only; omega)) (by first | omega | (dsimp only; omega)) rfl ?_
          refine TL.assign hF rfl rfl ?_
          refine TL.nil ?_
          rw [if_neg (show ¬ mark<(allS s had)[j].to from ht85)] at hst
          exact TQ.round ⟨j+1,fa,fc,fg⟩ ⟨hjl,by dsimp only; rw [hst]; exact hf⟩ (by dsimp only; omega) ⟨rfl,rfl,rfl,rfl,rfl,by dsimp only; rw [hst]; rfl,rfl,rfl,trivial⟩ rfl
      · refine T.exit ?_
        refine TQ.then_x ?_
        refine TQ.then_x ?_
        refine TQ.block_x ?_
        refine TQ.then_n ?_
        refine T.seq ?_
        refine T.region ?_
        refine TL.move hF rfl rfl ?_
        refine TL.move hF rfl rfl ?_
        refine TL.assign hF rfl rfl ?_
        refine TL.assign hF rfl rfl ?_
        refine TL.assign hF rfl rfl ?_
        refine TL.nil ?_
        refine TQ.then_n ?_
        refine T.ret ?_
        have hje:(allS s had).length≤j:=by have h:¬ (j:Int)<((allS s had).length:Int):=ht76; omega
        have el:lftTo (allS s had) mark j=leftS s l:=by
          unfold lftTo leftS
          rw [List.take_of_length_le hje,hrun]
        rw [el] at hf ⊢
        refine TQ.rets [4,5,6] _ rfl rfl rfl ?_
        have e:playS s l=((runS s l).1,leftS s l,0):=by unfold playS; rw [if_pos ha]
        rw [e,hrun]
        exact ⟨la,lc,xs,fa,fc,fg::og::lg::gg::(HH++[[(b2,Obj.cells (wsC s).toArray 23 (0,0))]]),rfl,rfl,⟨hxo.row (by simp),fun x hx=>(hxi x hx).up (fun _ hs=>by simp [hs])⟩,hf.row (by simp),by simp⟩
end Go.Proofs.YtbajelldegijkaaDoor
/- The law: Play is the reference's. -/
namespace Go.Proofs.YtbajelldegijkaaDoor
open Go.Sl
variable {S:Nat→Prop} {w0:World} {η:Heap}
theorem runS_ok {s:Wsp} {L:List Rw} (hq:Askd s L):∀ (n:Nat) (l:List Rw),l.length=n→(∀ r∈l,r∈L)→l.length≤300→(hadS s l).length≤l.length∧(∀ r∈hadS s l,r∈l)∧∀ st∈stpsS s l,st.outs.length≤314573100:=by
 intro n
 induction n with
 | zero =>
  intro l hl _ _
  rw [List.length_eq_zero_iff.1 hl]
  exact ⟨Nat.le_refl _,fun r h=>h,fun st h=>by simp [stpsS,runS] at h⟩
 | succ n ih =>
  intro l hl hin h3
  obtain ⟨p,r,rfl⟩:∃ p r,l=p++[r]:=⟨l.dropLast,l.getLast (by intro e; subst e; simp at hl),(List.dropLast_concat_getLast _).symm⟩
  rw [List.length_append,List.length_singleton] at hl h3
  obtain ⟨h1,h2,h4⟩:=ih p (by omega) (fun x hx=>hin x (by simp [hx])) (by omega)
  by_cases q:r.time<markS s p
  ·obtain ⟨e1,e2,_⟩:=run_late q
   rw [e1,e2,List.length_append,List.length_singleton]
   refine ⟨by omega,fun x hx=>by simp [h2 x hx],fun st hst=>?_⟩
   rcases List.mem_append.1 hst with h | h
   ·exact h4 st h
   ·rw [List.mem_singleton.1 h]; exact Nat.zero_le _
  ·obtain ⟨e1,e2,_⟩:=run_on q
   rw [e1,e2,List.length_append,List.length_append,List.length_singleton]
   have hsub:∀ x∈hadS s p++[r],x∈p++[r]:=fun x hx=>by
    rcases List.mem_append.1 hx with h | h
    ·simp [h2 x h]
    ·simp [List.mem_singleton.1 h]
   refine ⟨by omega,hsub,fun st hst=>?_⟩
   rcases List.mem_append.1 hst with h | h
   ·exact h4 st h
   ·rw [List.mem_singleton.1 h]
    have h5:=all_len (hq.sub (fun x hx=>hin x (hsub x hx)) (by rw [List.length_append,List.length_singleton]; omega))
    exact Nat.le_trans overS_len h5
theorem play_len {s:Wsp} {l:List Rw}:(∀ st∈(playS s l).1,st.outs.length<1000000000000)∧(playS s l).2.1.length<1000000000000:=by
 unfold playS
 split
 ·rename_i ha
  have hq:=askd_of ha
  obtain ⟨h1,h2,h3⟩:=runS_ok hq l.length l rfl (fun r h=>h) hq.len
  refine ⟨fun st hst=>Nat.lt_of_le_of_lt (h3 st hst) (by decide),?_⟩
  have h4:=all_len (hq.sub h2 (by have:=hq.len; omega))
  have h5:=List.length_filter_le (fun x:Ot=>decide ((runS s l).2.2<x.to)) (allS s (hadS s l))
  show (leftS s l).length<_
  unfold leftS
  show ((allS s (hadS s l)).filter _).length<_
  omega
 ·exact ⟨fun st h=>by simp at h,by simp⟩
set_option maxHeartbeats 8000000 in
theorem WindowPlays_fn {s : Wsp} {a : Option Addr} {l : List Rw} {c : Nat} (hT : Tabs S w0) (hz : -9223372036854775808 ≤ s.size ∧ s.size ≤ 9223372036854775807) (hx : RRow S w0 [] a l) (hl : l.length < 9223372036854775808) :
  Rt Tryd.prog 4 [wsV s,.slice a l.length c].toArray S w0 η (fun v _=>v = .bool true):=by
 have hF:=open_wide
 refine Rt.of (fn:=Tryd.f4) Tryd.func4 rfl rfl ?_
 refine T.seq ?_
 refine T.region ?_
 refine TL.box hF rfl rfl (fun b2=>?_)
 refine TL.assign hF rfl rfl ?_
 refine TL.nil ?_
 refine TQ.then_n ?_
 refine T.seq ?_
 refine T.seq ?_
 refine T.region ?_
 have hb:=Back.refl S w0
 refine TL.loadA hF (wsC s) rfl rfl (own_list (i:=0) (cs:=wsC s) rfl) rfl ?_
 refine TL.move hF rfl rfl ?_
 refine TL.call hF (many_fn (s:=s) (l:=l) (c:=c) (a:=a) hz) rfl rfl ?_
 rintro _ _ ⟨⟨bb,rfl⟩,he⟩
 subst he
 refine TL.nil ?_
 refine TQ.then_n ?_
 refine T.cond _ rfl (fun ht14=>?_) (fun ht14=>?_)
 ·refine T.seq ?_
  refine T.region ?_
  refine TL.call hF (windowed_law hT) rfl rfl ?_
  rintro _ _ rfl
  refine TL.assign hF rfl rfl ?_
  refine TL.nil ?_
  refine TQ.then_n ?_
  refine T.ret ?_
  refine TQ.then_r ?_
  exact TQ.retsF [4] _ hb rfl rfl rfl (fun _=>rfl)
 ·refine T.skip ?_
  refine TQ.then_n ?_
  refine T.seq ?_
  refine T.region ?_
  refine TL.loadA hF (wsC s) rfl rfl (own_list (i:=0) (cs:=wsC s) rfl) rfl ?_
  refine TL.move hF rfl rfl ?_
  refine TL.call hF (Play_fn hT s hx hl) rfl rfl ?_
  rintro _ _ ⟨la,lc,xs,oa,oc,segs,rfl,hxs,h1,h2,rfl⟩
  refine TL.freeze (segs) rfl (fun S1 w1 hz1=>?_)
  replace hb:=hb.frz hz1
  replace hT:=hT.old hz1
  replace hx:=hx.old hz1
  replace h1:=h1.frz hz1
  replace h2:=h2.frz hz1
  refine TL.move hF rfl rfl ?_
  refine TL.extract hF rfl rfl rfl ?_
  refine TL.extract hF rfl rfl rfl ?_
  refine TL.extract hF rfl rfl rfl ?_
  refine TL.assign hF rfl rfl ?_
  refine TL.assign hF rfl rfl ?_
  refine TL.assign hF rfl rfl ?_
  refine TL.nil ?_
  refine TQ.then_n ?_
  refine T.seq ?_
  refine T.region ?_
  refine TL.loadA hF (wsC s) rfl rfl (own_list (i:=0) (cs:=wsC s) rfl) rfl ?_
  refine TL.move hF rfl rfl ?_
  refine TL.call hF (PlayR_fn (s:=s) (hx.up (by simp)) hl) rfl rfl ?_
  rintro _ _ ⟨ka,kc,ys,ua,uc,segs,rfl,hys,h3,h4,rfl⟩
  refine TL.freeze (segs) rfl (fun S2 w2 hz2=>?_)
  replace hb:=hb.frz hz2
  replace hT:=hT.old hz2
  replace hx:=hx.old hz2
  replace h1:=h1.old hz2
  replace h2:=h2.old hz2
  replace h3:=h3.frz hz2
  replace h4:=h4.frz hz2
  obtain ⟨hpl,hpl2⟩:=play_len (s:=s) (l:=l)
  have hxy:xs.length=ys.length:=by rw [← List.length_map (f:=SH.st),hxs,← hys,List.length_map]
  have hxb:xs.length<9000000000000000000:=by
   rw [← List.length_map (f:=SH.st),hxs]
   unfold playS
   split
   ·rename_i ha; have:=(askd_of ha).len; have:=stps_len s l; show (stpsS s l).length<_; omega
   ·simp
  refine TL.move hF rfl rfl ?_
  refine TL.extract hF rfl rfl rfl ?_
  refine TL.extract hF rfl rfl rfl ?_
  refine TL.extract hF rfl rfl rfl ?_
  refine TL.assign hF rfl rfl ?_
  refine TL.assign hF rfl rfl ?_
  refine TL.assign hF rfl rfl ?_
  refine TL.nil ?_
  refine TQ.then_n ?_
  refine T.seq ?_
  refine T.seq ?_
  refine T.region ?_
  refine TL.move hF rfl rfl ?_
  refine TL.move hF rfl rfl ?_
  refine TL.bin hF rfl rfl rfl rfl ?_
  refine TL.move hF rfl rfl ?_
  refine TL.on rfl rfl rfl (by simp) ?_
  refine TL.move hF rfl rfl ?_
  refine TL.on rfl rfl rfl (by simp) ?_
  refine TL.len hF rfl rfl ?_
  refine TL.on rfl rfl rfl (by simp) ?_
  refine TL.move hF rfl rfl ?_
  refine TL.on rfl rfl rfl (by simp) ?_
  refine TL.len hF rfl rfl ?_
  refine TL.on rfl rfl rfl (by simp) ?_
  refine TL.bin hF rfl rfl rfl rfl ?_
  refine TL.pickF hF rfl (by simp) rfl rfl ?_
  refine TL.move hF rfl rfl ?_
  refine TL.on rfl rfl rfl (by rw [hxy]; simp) ?_
  refine TL.move hF rfl rfl ?_
  refine TL.on rfl rfl rfl (by rw [hxy]; simp) ?_
  refine TL.move hF rfl rfl ?_
  refine TL.on rfl rfl rfl (by rw [hxy]; simp) ?_
  refine TL.callV hF (outs_fn (l:=(playS s l).2.1) (m:=(playS s l).2.1) (h2.up (by simp)) (h4.up (by simp)) hpl2) rfl rfl ?_
  refine TL.on rfl rfl rfl (by rw [hxy]; simp) ?_
  refine TL.not hF rfl rfl ?_
  refine TL.pickF hF rfl (by rw [hxy]; simp) rfl rfl ?_
  refine TL.nil ?_
  refine TQ.then_n ?_
  refine T.cond_f rfl (by simp) ?_
  refine T.skip ?_
  refine TQ.then_n ?_
  refine T.seq ?_
  refine T.seq ?_
  refine T.region ?_
  refine TL.assign hF rfl rfl ?_
  refine TL.nil ?_
  refine TQ.then_n ?_
  refine T.block ?_
  refine T.loop (ι:=Nat) (fun i=>i≤xs.length) (fun i=>[(4,.bool false),(5,.slice la xs.length lc),(8,.slice ka ys.length kc),(11,.int .i64 (i:Int))]) (fun _=>[(b2,Obj.cells (wsV s).cells 23 (0,0))]::η) (fun i=>xs.length - i) 0 (Nat.zero_le _) ⟨rfl,rfl,rfl,rfl,trivial⟩ rfl ?_
  rintro i hi
  refine T.seq ?_
  refine T.seq ?_
  refine T.region ?_
  refine TL.move hF rfl rfl ?_
  refine TL.move hF rfl rfl ?_
  refine TL.len hF rfl rfl ?_
  refine TL.bin hF rfl rfl rfl rfl ?_
  refine TL.nil ?_
  refine TQ.then_n ?_
  first | refine T.cond_d rfl (fun ht49=>?_) (fun ht49=>?_) | refine T.cond _ rfl (fun ht49=>?_) (fun ht49=>?_)
  ·refine T.skip ?_
   refine TQ.then_n ?_
   refine T.seq ?_
   refine T.block ?_
   refine T.seq ?_
   have hil:i<xs.length:=by have h:(i:Int)<(xs.length:Int):=ht49; omega
   have hiy:i<ys.length:=by omega
   have hst:xs[i].st=ys[i].st:=by
    have e:xs.map (·.st)=ys.map (·.st):=by rw [hxs,hys]
    have h1:=congrArg (fun z=>z[i]?) e
    simp only [List.getElem?_map,List.getElem?_eq_getElem hil,List.getElem?_eq_getElem hiy,Option.map_some,Option.some.injEq] at h1
    exact h1
   have hob:xs[i].st.outs.length<1000000000000:=hpl _ (by rw [← hxs]; exact List.mem_map_of_mem (List.getElem_mem hil))
   refine T.draw ?_
   refine DR.stepV [_] rfl [(5,_,none)] rfl rfl ⟨⟨rfl,by kernel_rfl⟩,trivial⟩ (fun ext=>TL.move hF rfl rfl TL.fin) ?_
   refine DR.stepV [_,_] rfl [(11,_,none)] rfl rfl ⟨⟨rfl,by kernel_rfl⟩,trivial⟩ (fun ext=>TL.move hF rfl rfl TL.fin) ?_
   refine DR.stepV [_,_,_] rfl [(52,_,some 0),(53,_,some 1)] rfl rfl ⟨⟨rfl,rfl,rfl⟩,⟨rfl,rfl,rfl⟩,trivial⟩ (fun ext=>TL.indexAddr hF rfl rfl ((h1).row.tad shC_len (by decide) (i:=i) (by omega)) (by omega) (by omega) rfl TL.fin) ?_
   refine DR.stepV [_,_,_,_] rfl [(54,_,some 2)] rfl rfl ⟨⟨rfl,rfl,rfl⟩,trivial⟩ (fun ext=>TL.fieldAddr hF rfl rfl TL.fin) ?_
   refine DR.stepV [_,_,_,_,_] rfl [(55,_,some 3)] rfl rfl ⟨⟨rfl,rfl,rfl⟩,trivial⟩ (fun ext=>TL.load hF rfl (((h1).up (η':=[(b2,Obj.cells (wsV s).cells 23 (0,0))]::η) (by simp)).row.tabA shC_len (i:=i) (by omega) 1 _ rfl) rfl TL.fin) ?_
   refine DR.stepV [_,_,_,_,_,_] rfl [(8,_,none)] rfl rfl ⟨⟨rfl,by kernel_rfl⟩,trivial⟩ (fun ext=>TL.move hF rfl rfl TL.fin) ?_
   refine DR.stepV [_,_,_,_,_,_,_] rfl [(11,_,none)] rfl rfl ⟨⟨rfl,by kernel_rfl⟩,trivial⟩ (fun ext=>TL.move hF rfl rfl TL.fin) ?_
   refine DR.stepV [_,_,_,_,_,_,_,_] rfl [(57,_,some 5),(58,_,some 6)] rfl rfl ⟨⟨rfl,rfl,rfl⟩,⟨rfl,rfl,rfl⟩,trivial⟩ (fun ext=>TL.indexAddr hF rfl rfl ((h3).row.tad shC_len (by decide) (i:=i) (by omega)) (by omega) (by omega) rfl TL.fin) ?_
   refine DR.stepV [_,_,_,_,_,_,_,_,_] rfl [(59,_,some 7)] rfl rfl ⟨⟨rfl,rfl,rfl⟩,trivial⟩ (fun ext=>TL.fieldAddr hF rfl rfl TL.fin) ?_
   refine DR.stepV [_,_,_,_,_,_,_,_,_,_] rfl [(60,_,some 8)] rfl rfl ⟨⟨rfl,rfl,rfl⟩,trivial⟩ (fun ext=>TL.load hF rfl (((h3).up (η':=[(b2,Obj.cells (wsV s).cells 23 (0,0))]::η) (by simp)).row.tabA shC_len (i:=i) (by omega) 1 _ rfl) rfl TL.fin) ?_
   refine DR.stepV [_,_,_,_,_,_,_,_,_,_,_] rfl [(56,_,some 4),(61,_,some 9)] rfl rfl ⟨⟨rfl,rfl,rfl⟩,⟨rfl,rfl,rfl⟩,trivial⟩ (fun ext=>TL.neqB hF rfl rfl rfl TL.fin) ?_
   refine DR.stepV [_,_,_,_,_,_,_,_,_,_,_,_] rfl [(62,_,some 10)] rfl rfl ⟨⟨rfl,rfl,rfl⟩,trivial⟩ (fun ext=>TL.move hF rfl rfl TL.fin) ?_
   refine DR.stepV [_,_,_,_,_,_,_,_,_,_,_,_,_] rfl [(5,_,none),(63,_,some 11)] rfl rfl ⟨⟨rfl,by kernel_rfl⟩,⟨rfl,rfl,rfl⟩,trivial⟩ (fun ext=>TL.on rfl rfl rfl (by rw [hst]; simp) <| TL.move hF rfl rfl TL.fin) ?_
   refine DR.stepV [_,_,_,_,_,_,_,_,_,_,_,_,_,_] rfl [(11,_,none),(63,_,some 11)] rfl rfl ⟨⟨rfl,by kernel_rfl⟩,⟨rfl,rfl,rfl⟩,trivial⟩ (fun ext=>TL.on rfl rfl rfl (by rw [hst]; simp) <| TL.move hF rfl rfl TL.fin) ?_
   refine DR.stepV [_,_,_,_,_,_,_,_,_,_,_,_,_,_,_] rfl [(64,_,some 12),(65,_,some 13),(63,_,some 11)] rfl rfl ⟨⟨rfl,rfl,rfl⟩,⟨rfl,rfl,rfl⟩,⟨rfl,rfl,rfl⟩,trivial⟩ (fun ext=>TL.on rfl rfl rfl (by rw [hst]; simp) <| TL.indexAddr hF rfl rfl ((h1).row.tad shC_len (by decide) (i:=i) (by omega)) (by omega) (by omega) rfl TL.fin) ?_
   refine DR.stepV [_,_,_,_,_,_,_,_,_,_,_,_,_,_,_,_] rfl [(66,_,some 14),(63,_,some 11)] rfl rfl ⟨⟨rfl,rfl,rfl⟩,⟨rfl,rfl,rfl⟩,trivial⟩ (fun ext=>TL.on rfl rfl rfl (by rw [hst]; simp) <| TL.fieldAddr hF rfl rfl TL.fin) ?_
   refine DR.stepV [_,_,_,_,_,_,_,_,_,_,_,_,_,_,_,_,_] rfl [(67,_,some 15),(63,_,some 11)] rfl rfl ⟨⟨rfl,rfl,rfl⟩,⟨rfl,rfl,rfl⟩,trivial⟩ (fun ext=>TL.on rfl rfl rfl (by rw [hst]; simp) <| TL.load hF rfl (((h1).up (η':=[(b2,Obj.cells (wsV s).cells 23 (0,0))]::η) (by simp)).row.tabA shC_len (i:=i) (by omega) 0 _ rfl) rfl TL.fin) ?_
   refine DR.stepV [_,_,_,_,_,_,_,_,_,_,_,_,_,_,_,_,_,_] rfl [(8,_,none),(63,_,some 11)] rfl rfl ⟨⟨rfl,by kernel_rfl⟩,⟨rfl,rfl,rfl⟩,trivial⟩ (fun ext=>TL.on rfl rfl rfl (by rw [hst]; simp) <| TL.move hF rfl rfl TL.fin) ?_
   refine DR.stepV [_,_,_,_,_,_,_,_,_,_,_,_,_,_,_,_,_,_,_] rfl [(11,_,none),(63,_,some 11)] rfl rfl ⟨⟨rfl,by kernel_rfl⟩,⟨rfl,rfl,rfl⟩,trivial⟩ (fun ext=>TL.on rfl rfl rfl (by rw [hst]; simp) <| TL.move hF rfl rfl TL.fin) ?_
   refine DR.stepV [_,_,_,_,_,_,_,_,_,_,_,_,_,_,_,_,_,_,_,_] rfl [(69,_,some 17),(70,_,some 18),(63,_,some 11)] rfl rfl ⟨⟨rfl,rfl,rfl⟩,⟨rfl,rfl,rfl⟩,⟨rfl,rfl,rfl⟩,trivial⟩ (fun ext=>TL.on rfl rfl rfl (by rw [hst]; simp) <| TL.indexAddr hF rfl rfl ((h3).row.tad shC_len (by decide) (i:=i) (by omega)) (by omega) (by omega) rfl TL.fin) ?_
   refine DR.stepV [_,_,_,_,_,_,_,_,_,_,_,_,_,_,_,_,_,_,_,_,_] rfl [(71,_,some 19),(63,_,some 11)] rfl rfl ⟨⟨rfl,rfl,rfl⟩,⟨rfl,rfl,rfl⟩,trivial⟩ (fun ext=>TL.on rfl rfl rfl (by rw [hst]; simp) <| TL.fieldAddr hF rfl rfl TL.fin) ?_
   refine DR.stepV [_,_,_,_,_,_,_,_,_,_,_,_,_,_,_,_,_,_,_,_,_,_] rfl [(72,_,some 20),(63,_,some 11)] rfl rfl ⟨⟨rfl,rfl,rfl⟩,⟨rfl,rfl,rfl⟩,trivial⟩ (fun ext=>TL.on rfl rfl rfl (by rw [hst]; simp) <| TL.load hF rfl (((h3).up (η':=[(b2,Obj.cells (wsV s).cells 23 (0,0))]::η) (by simp)).row.tabA shC_len (i:=i) (by omega) 0 _ rfl) rfl TL.fin) ?_
   refine DR.done [(73,_),(72,_),(71,_),(70,_),(69,_),(68,_),(67,_),(66,_),(65,_),(64,_),(63,_),(62,_),(61,_),(60,_),(59,_),(58,_),(57,_),(56,_),(55,_),(54,_),(53,_),(52,_)] [_,_,_] mixed (by kernel_rfl) (by kernel_rfl) (by kernel_rfl) rfl rfl ?_
   refine TL.on rfl rfl rfl (by rw [hst]; simp) ?_
   refine TL.callV hF (outs_fn (l:=xs[i].st.outs) (m:=ys[i].st.outs) ((h1.item _ (List.getElem_mem hil)).up (by simp)) ((h3.item _ (List.getElem_mem hiy)).up (by simp)) hob) rfl rfl ?_
   refine TL.on rfl rfl rfl (by rw [hst]; simp) ?_
   refine TL.not hF rfl rfl ?_
   refine TL.pickF hF rfl (by rw [hst]; simp) rfl rfl ?_
   refine TL.nil ?_
   refine TQ.then_n ?_
   refine T.cond_f rfl (by rw [hst]; simp) ?_
   refine T.skip ?_
   refine TQ.block_n ?_
   refine TQ.then_n ?_
   refine T.region ?_
   refine TL.move hF rfl rfl ?_
   refine TL.add hF rfl rfl (by omega) (by omega) rfl ?_
   refine TL.assign hF rfl rfl ?_
   refine TL.nil ?_
   exact TQ.round (i+1) (by omega) (by omega) ⟨rfl,rfl,rfl,rfl,trivial⟩ rfl
  ·refine T.exit ?_
   refine TQ.then_x ?_
   refine TQ.then_x ?_
   refine TQ.block_x ?_
   refine TQ.then_n ?_
   refine T.seq ?_
   refine T.region ?_
   refine TL.call hF (windowed_law hT) rfl rfl ?_
   rintro _ _ rfl
   refine TL.assign hF rfl rfl ?_
   refine TL.nil ?_
   refine TQ.then_n ?_
   refine T.ret ?_
   exact TQ.retsF [4] _ hb rfl rfl rfl (fun _=>rfl)
end Go.Proofs.YtbajelldegijkaaDoor
