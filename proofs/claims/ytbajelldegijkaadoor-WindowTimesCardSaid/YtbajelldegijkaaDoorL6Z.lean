/- The windows of a time, for every input. No condition. -/
import Derived.Test.YtbajelldegijkaaDoorVf
import Derived.Test.YtbajelldegijkaaDoorCards
import Derived.Test.YtbajelldegijkaaDoorTie
/- The law of times: the windows of a time. -/
namespace Go.Proofs.YtbajelldegijkaaDoor
open Go.Sl
variable {S:Nat→Prop} {w0:World} {η:Heap}
theorem count_most {s:Wsp} {t:Int} (h:TimeOk s t):(countS s t:Int)≤(s.size+s.step - 1) / s.step:=by
 rw [count_eq h]
 have hs:=h.sp.step
 have hz:=h.sp.size
 have h0:=h.t0
 unfold firstS
 by_cases hc:s.size≤t
 ·rw [if_pos hc]
  have h1:=Int.lt_ediv_add_one_mul_self (t - s.size) (show 0<s.step by omega)
  have h2:=Int.lt_ediv_add_one_mul_self (s.size+s.step - 1) (show 0<s.step by omega)
  generalize (t - s.size) / s.step=a at h1 ⊢
  generalize (s.size+s.step - 1) / s.step=c at h2 ⊢
  rw [Int.add_mul,Int.one_mul] at h1 h2
  have h3:t / s.step<a+c+1:=by
   rw [Int.ediv_lt_iff_lt_mul (by omega),Int.add_mul,Int.add_mul,Int.one_mul]
   omega
  omega
 ·rw [if_neg hc]
  have h2:=Int.ediv_mul_le t (show s.step≠0 by omega)
  have h3:t / s.step+1≤(s.size+s.step - 1) / s.step:=by
   rw [Int.le_ediv_iff_mul_le (by omega),Int.add_mul,Int.one_mul]
   omega
  omega
theorem rem_mul (j:Int) {m:Int} (hm:1≤m) (hj:0≤j):Int.tmod (j*m) m=0:=by
 rw [Int.tmod_eq_emod_of_nonneg (Int.mul_nonneg hj (by omega)),Int.mul_emod_left]
set_option maxHeartbeats 8000000 in
theorem WindowTimes_fn {z0 z1 z2 : Int} (hT : Tabs S w0) :
  Rt Tryd.prog 8 [.int .i64 z0,.int .i64 z1,.int .i64 z2].toArray S w0 η (fun v _=>v = .bool true):=by
 have hF:=open_wide
 refine Rt.of (fn:=Tryd.f8) Tryd.func8 rfl rfl ?_
 refine T.seq ?_
 refine T.region ?_
 refine TL.assign hF rfl rfl ?_
 refine TL.nil ?_
 refine TQ.then_n ?_
 refine T.seq ?_
 refine T.region ?_
 have hb:=Back.refl S w0
 have hz1:=turnI_range z0 (m:=1000) (by decide)
 obtain ⟨sz,hsz⟩:∃ sz,sz=1+turnI z0 1000:=⟨_,rfl⟩
 obtain ⟨st,hst⟩:∃ st,st=1+turnI z1 sz:=⟨_,rfl⟩
 obtain ⟨t,ht⟩:∃ t,t=turnI z2 1048577:=⟨_,rfl⟩
 have hz2:=turnI_range z1 (m:=sz) (by omega)
 have hz3:=turnI_range z2 (m:=1048577) (by decide)
 refine TL.move hF rfl rfl ?_
 refine TL.callV hF (Turn_fn z0 (m:=1000) (by decide)) rfl rfl ?_
 refine TL.add hF rfl rfl (by omega) (by omega) rfl ?_
 rw [← hsz]
 refine TL.build hF rfl (r:=wsV ⟨0,sz,0,0,0⟩) (fun w=>by kernel_rfl) rfl ?_
 refine TL.alloc hF rfl (fun b7=>?_)
 refine TL.storeAs hF (wsC ⟨0,sz,0,0,0⟩) (wsC ⟨0,sz,0,0,0⟩) 0 (cs:=[.int .i64 0,.int .i64 0,.int .i64 0,.int .i64 0,.int .i64 0]) rfl rfl rfl rfl (wsC1 _) (Nat.le_refl 5) rfl ?_
 refine TL.nil ?_
 refine TQ.then_n ?_
 refine T.seq ?_
 refine T.region ?_
 refine TL.move hF rfl rfl ?_
 refine TL.fieldAddr hF rfl rfl ?_
 refine TL.load hF rfl (show At _ _ _ _ (.int .i64 sz) from own_mem (b:=b7) (cs:=(wsC ⟨0,sz,0,0,0⟩).toArray) (e:=23) (fz:=(0,0)) List.mem_cons_self rfl) rfl ?_
 refine TL.callV hF (Turn_fn z1 (m:=sz) (by omega)) rfl rfl ?_
 refine TL.add hF rfl rfl (by omega) (by omega) rfl ?_
 refine TL.fieldAddr hF rfl rfl ?_
 rw [← hst]
 refine TL.storeI hF 0 rfl rfl rfl rfl (by simp [wsC]) ?_
 refine TL.nil ?_
 refine TQ.then_n ?_
 refine T.seq ?_
 refine T.region ?_
 refine TL.move hF rfl rfl ?_
 refine TL.callV hF (Turn_fn z2 (m:=1048577) (by decide)) rfl rfl ?_
 rw [← ht]
 refine TL.heap (η':=[(b7,Obj.cells (wsC ⟨0,sz,st,0,0⟩).toArray 23 (0,0))]::η) rfl ?_
 refine TL.assign hF rfl rfl ?_
 refine TL.nil ?_
 refine TQ.then_n ?_
 refine T.seq ?_
 refine T.region ?_
 refine TL.loadA hF (wsC ⟨0,sz,st,0,0⟩) rfl rfl (own_list (i:=0) (cs:=wsC ⟨0,sz,st,0,0⟩) rfl) rfl ?_
 refine TL.move hF rfl rfl ?_
 have hok:okS ⟨0,sz,st,0,0⟩=true:=by
  simp [okS]
  omega
 have htok:TimeOk ⟨0,sz,st,0,0⟩ t:=⟨(okS_w hok).sp rfl,by show sz≤1000; omega,by omega,by omega⟩
 have ew:windowsS ⟨0,sz,st,0,0⟩ t=(spansS ⟨0,sz,st,0,0⟩ t,0):=by
  unfold windowsS
  rw [if_pos hok,if_pos (by unfold okT; simp only [Bool.and_eq_true,decide_eq_true_eq]; omega),if_pos rfl]
 have hcl:=spans_len ⟨0,sz,st,0,0⟩ t
 have hcn:(countS ⟨0,sz,st,0,0⟩ t:Int)=t / st - firstS ⟨0,sz,st,0,0⟩ t+1:=count_eq htok
 have hcm:(countS ⟨0,sz,st,0,0⟩ t:Int)≤(sz+st - 1) / st:=count_most htok
 have hcle:=count_le htok
 have hf0:=firstS_nonneg htok.sp t
 refine TL.call hF (Windows_fn hT ⟨0,sz,st,0,0⟩ t) rfl rfl ?_
 rintro _ _ ⟨wa,wc,segs,rfl,h8,rfl⟩
 rw [ew] at h8 ⊢
 refine TL.freeze (segs) rfl (fun S1 w1 hz1=>?_)
 replace hb:=hb.frz hz1
 replace hT:=hT.old hz1
 replace h8:=h8.frz hz1
 obtain ⟨sp,hsp⟩:∃ sp,sp=spansS ⟨0,sz,st,0,0⟩ t:=⟨_,rfl⟩
 rw [← hsp] at h8 hcl ⊢
 dsimp only at h8 ⊢
 refine TL.move hF rfl rfl ?_
 refine TL.extract hF rfl rfl rfl ?_
 refine TL.extract hF rfl rfl rfl ?_
 refine TL.assign hF rfl rfl ?_
 refine TL.assign hF rfl rfl ?_
 refine TL.nil ?_
 refine TQ.then_n ?_
 refine T.seq ?_
 refine T.region ?_
 refine TL.move hF rfl rfl ?_
 refine TL.fieldAddr hF rfl rfl ?_
 refine TL.load hF rfl (show At _ _ _ _ (.int .i64 st) from own_mem (b:=b7) (cs:=(wsC ⟨0,sz,st,0,0⟩).toArray) (e:=23) (fz:=(0,0)) (by simp) rfl) rfl ?_
 have hq0:=Int.ediv_nonneg (show 0≤t by omega) (show 0≤st by omega)
 have hq1:=Int.ediv_le_self st (show 0≤t by omega)
 refine TL.quoI hF rfl rfl (by omega) (r:=t / st) (by rw [Int.tdiv_eq_ediv_of_nonneg (by omega)]; exact wrap_i64 (by omega) (by omega)) rfl ?_
 refine TL.add hF rfl rfl (by omega) (by omega) rfl ?_
 refine TL.assign hF rfl rfl ?_
 refine TL.nil ?_
 refine TQ.then_n ?_
 refine T.seq ?_
 refine T.seq ?_
 refine T.region ?_
 refine TL.move hF rfl rfl ?_
 refine TL.fieldAddr hF rfl rfl ?_
 refine TL.load hF rfl (show At _ _ _ _ (.int .i64 sz) from own_mem (b:=b7) (cs:=(wsC ⟨0,sz,st,0,0⟩).toArray) (e:=23) (fz:=(0,0)) (by simp) rfl) rfl ?_
 refine TL.bin hF rfl rfl rfl rfl ?_
 refine TL.nil ?_
 refine TQ.then_n ?_
 refine T.cond_d rfl (fun ht38=>?_) (fun ht38=>?_)
 ·refine T.region ?_
  refine TL.move hF rfl rfl ?_
  refine TL.move hF rfl rfl ?_
  refine TL.fieldAddr hF rfl rfl ?_
  refine TL.load hF rfl (show At _ _ _ _ (.int .i64 sz) from own_mem (b:=b7) (cs:=(wsC ⟨0,sz,st,0,0⟩).toArray) (e:=23) (fz:=(0,0)) (by simp) rfl) rfl ?_
  refine TL.sub hF rfl rfl (by omega) (by omega) rfl ?_
  refine TL.fieldAddr hF rfl rfl ?_
  refine TL.load hF rfl (show At _ _ _ _ (.int .i64 st) from own_mem (b:=b7) (cs:=(wsC ⟨0,sz,st,0,0⟩).toArray) (e:=23) (fz:=(0,0)) (by simp) rfl) rfl ?_
  have hq2:=Int.ediv_nonneg (show 0≤t - sz by omega) (show 0≤st by omega)
  have hq3:=Int.ediv_le_self st (show 0≤t - sz by omega)
  refine TL.quoI hF rfl rfl (by omega) (r:=(t - sz) / st) (by rw [Int.tdiv_eq_ediv_of_nonneg (by omega)]; exact wrap_i64 (by omega) (by omega)) rfl ?_
  refine TL.add hF rfl rfl (by omega) (by omega) rfl ?_
  refine TL.sub hF rfl rfl (by omega) (by omega) rfl ?_
  refine TL.assign hF rfl rfl ?_
  refine TL.nil ?_
  refine TQ.then_n ?_
  refine T.seq ?_
  refine T.seq ?_
  refine T.region ?_
  have hcv:t / st+1 - ((t - sz) / st+1)=(sp.length:Int):=by
   have:firstS ⟨0,sz,st,0,0⟩ t=(t - sz) / st+1:=by unfold firstS; exact if_pos ht38
   omega
  rw [hcv]
  refine TL.move hF rfl rfl ?_
  refine TL.bin hF rfl rfl rfl rfl ?_
  refine TL.move hF rfl rfl ?_
  refine TL.on rfl rfl rfl (by decide) ?_
  refine TL.move hF rfl rfl ?_
  refine TL.on rfl rfl rfl (by decide) ?_
  refine TL.len hF rfl rfl ?_
  refine TL.on rfl rfl rfl (by decide) ?_
  refine TL.move hF rfl rfl ?_
  refine TL.on rfl rfl rfl (by decide) ?_
  refine TL.bin hF rfl rfl rfl rfl ?_
  refine TL.pickF hF rfl (by decide) rfl rfl ?_
  refine TL.move hF rfl rfl ?_
  refine TL.on rfl rfl rfl (by simp) ?_
  refine TL.move hF rfl rfl ?_
  refine TL.on rfl rfl rfl (by simp) ?_
  refine TL.len hF rfl rfl ?_
  refine TL.on rfl rfl rfl (by simp) ?_
  refine TL.fieldAddr hF rfl rfl ?_
  refine TL.on rfl rfl rfl (by simp) ?_
  refine TL.load hF rfl (show At _ _ _ _ (.int .i64 sz) from own_mem (b:=b7) (cs:=(wsC ⟨0,sz,st,0,0⟩).toArray) (e:=23) (fz:=(0,0)) (by simp) rfl) rfl ?_
  refine TL.on rfl rfl rfl (by simp) ?_
  refine TL.fieldAddr hF rfl rfl ?_
  refine TL.on rfl rfl rfl (by simp) ?_
  refine TL.load hF rfl (show At _ _ _ _ (.int .i64 st) from own_mem (b:=b7) (cs:=(wsC ⟨0,sz,st,0,0⟩).toArray) (e:=23) (fz:=(0,0)) (by simp) rfl) rfl ?_
  refine TL.on rfl rfl rfl (by simp) ?_
  refine TL.add hF rfl rfl (by omega) (by omega) rfl ?_
  refine TL.on rfl rfl rfl (by simp) ?_
  refine TL.sub hF rfl rfl (by omega) (by omega) rfl ?_
  refine TL.on rfl rfl rfl (by simp) ?_
  refine TL.fieldAddr hF rfl rfl ?_
  refine TL.on rfl rfl rfl (by simp) ?_
  refine TL.load hF rfl (show At _ _ _ _ (.int .i64 st) from own_mem (b:=b7) (cs:=(wsC ⟨0,sz,st,0,0⟩).toArray) (e:=23) (fz:=(0,0)) (by simp) rfl) rfl ?_
  refine TL.on rfl rfl rfl (by simp) ?_
  have hq4:=Int.ediv_nonneg (show 0≤sz+st - 1 by omega) (show 0≤st by omega)
  have hq5:=Int.ediv_le_self st (show 0≤sz+st - 1 by omega)
  refine TL.quoI hF rfl rfl (by omega) (r:=(sz+st - 1) / st) (by rw [Int.tdiv_eq_ediv_of_nonneg (by omega)]; exact wrap_i64 (by omega) (by omega)) rfl ?_
  refine TL.on rfl rfl rfl (by simp) ?_
  refine TL.bin hF rfl rfl rfl rfl ?_
  refine TL.pickF hF rfl (by simp) rfl rfl ?_
  refine TL.nil ?_
  refine TQ.then_n ?_
  refine T.cond_f rfl (by rw [decide_eq_false_iff_not]; omega) ?_
  refine T.skip ?_
  refine TQ.then_n ?_
  refine T.seq ?_
  refine T.seq ?_
  refine T.region ?_
  refine TL.assign hF rfl rfl ?_
  refine TL.nil ?_
  refine TQ.then_n ?_
  refine T.block ?_
  refine T.loop (ι:=Nat) (fun i=>i≤sp.length) (fun i=>[(2,.int .i64 t),(6,.bool false),(7,ptr b7),(8,.slice wa sp.length wc),(11,.int .i64 (i:Int))]) (fun _=>[(b7,Obj.cells (wsC ⟨0,sz,st,0,0⟩).toArray 23 (0,0))]::η) (fun i=>sp.length - i) 0 (Nat.zero_le _) ⟨rfl,rfl,rfl,rfl,rfl,trivial⟩ rfl ?_
  rintro i hi
  refine T.seq ?_
  refine T.seq ?_
  refine T.region ?_
  refine TL.move hF rfl rfl ?_
  refine TL.move hF rfl rfl ?_
  refine TL.len hF rfl rfl ?_
  refine TL.bin hF rfl rfl rfl rfl ?_
  refine TL.nil ?_
  refine TQ.then_n ?_
  first | refine T.cond_d rfl (fun ht74=>?_) (fun ht74=>?_) | refine T.cond _ rfl (fun ht74=>?_) (fun ht74=>?_)
  ·refine T.skip ?_
   refine TQ.then_n ?_
   refine T.seq ?_
   refine T.block ?_
   refine T.seq ?_
   by_cases hi0:0<i
   ·have hil:i<sp.length:=by have h:(i:Int)<(sp.length:Int):=ht74; omega
    have hat:∀ j:Nat,(hj:j<sp.length)→sp[j]=((firstS ⟨0,sz,st,0,0⟩ t+j)*st,(firstS ⟨0,sz,st,0,0⟩ t+j)*st+sz):=fun j hj=>by
     have h1:=spans_at (s:=⟨0,sz,st,0,0⟩) (t:=t) (i:=j) (by omega)
     rw [← hsp,List.getElem?_eq_getElem hj] at h1
     exact Option.some.inj h1
    have ldf:∀ (j:Nat) (hj:j<sp.length),At S1 w1 ([(b7,Obj.cells (wsC ⟨0,sz,st,0,0⟩).toArray 23 (0,0))]::η) ⟨(sAt wa (j*2)).block,(sAt wa (j*2)).off+0,none⟩ (.int .i64 ((firstS ⟨0,sz,st,0,0⟩ t+j)*st)):=fun j hj=>by
     have h1:=(h8.up (η':=[(b7,Obj.cells (wsC ⟨0,sz,st,0,0⟩).toArray 23 (0,0))]::η) (by simp)).tabA pC_len hj 0 (.int .i64 sp[j].1) rfl
     rw [hat j hj] at h1; exact h1
    have lds:∀ (j:Nat) (hj:j<sp.length),At S1 w1 ([(b7,Obj.cells (wsC ⟨0,sz,st,0,0⟩).toArray 23 (0,0))]::η) ⟨(sAt wa (j*2)).block,(sAt wa (j*2)).off+1,none⟩ (.int .i64 ((firstS ⟨0,sz,st,0,0⟩ t+j)*st+sz)):=fun j hj=>by
     have h1:=(h8.up (η':=[(b7,Obj.cells (wsC ⟨0,sz,st,0,0⟩).toArray 23 (0,0))]::η) (by simp)).tabA pC_len hj 1 (.int .i64 sp[j].2) rfl
     rw [hat j hj] at h1; exact h1
    have hmem:sp[i]∈spansS ⟨0,sz,st,0,0⟩ t:=by rw [← hsp]; exact List.getElem_mem hil
    have hin:=(mem_spans htok.sp).1 hmem
    rw [hat i hil] at hin
    obtain ⟨_,hi1,hi2⟩:=hin
    dsimp only at hi1 hi2
    have hstep:0<i→(firstS ⟨0,sz,st,0,0⟩ t+i)*st=(firstS ⟨0,sz,st,0,0⟩ t+((i - 1:Nat):Int))*st+st:=fun h=>by rw [show (i:Int)=((i - 1:Nat):Int)+1 by omega,← Int.add_assoc,Int.add_mul,Int.one_mul]
    have hnn:0≤(firstS ⟨0,sz,st,0,0⟩ t+i)*st:=Int.mul_nonneg (by omega) (by omega)
    refine T.draw ?_
    refine DR.stepV [_] rfl [(8,_,none)] rfl rfl ⟨⟨rfl,by kernel_rfl⟩,trivial⟩ (fun ext=>TL.move hF rfl rfl TL.fin) ?_
    refine DR.stepV [_,_] rfl [(11,_,none)] rfl rfl ⟨⟨rfl,by kernel_rfl⟩,trivial⟩ (fun ext=>TL.move hF rfl rfl TL.fin) ?_
    refine DR.stepV [_,_,_] rfl [(77,_,some 0),(78,_,some 1)] rfl rfl ⟨⟨rfl,rfl,rfl⟩,⟨rfl,rfl,rfl⟩,trivial⟩ (fun ext=>TL.indexAddr hF rfl rfl (h8.tad pC_len (by decide) (i:=i) hil) (by omega) (by omega) rfl TL.fin) ?_
    refine DR.stepV [_,_,_,_] rfl [(79,_,some 2)] rfl rfl ⟨⟨rfl,rfl,rfl⟩,trivial⟩ (fun ext=>TL.indexAddrA hF rfl rfl (by omega) (by omega) rfl TL.fin) ?_
    refine DR.stepV [_,_,_,_,_] rfl [(80,_,some 3)] rfl rfl ⟨⟨rfl,rfl,rfl⟩,trivial⟩ (fun ext=>TL.load hF rfl (ldf i hil) rfl TL.fin) ?_
    refine DR.stepV [_,_,_,_,_,_] rfl [(81,_,some 4)] rfl rfl ⟨⟨rfl,rfl,rfl⟩,trivial⟩ (fun ext=>TL.bin hF rfl rfl rfl rfl TL.fin) ?_
    refine DR.stepV [_,_,_,_,_,_,_] rfl [(82,_,some 5)] rfl rfl ⟨⟨rfl,rfl,rfl⟩,trivial⟩ (fun ext=>TL.move hF rfl rfl TL.fin) ?_
    refine DR.stepV [_,_,_,_,_,_,_,_] rfl [(8,_,none),(83,_,some 6)] rfl rfl ⟨⟨rfl,by kernel_rfl⟩,⟨rfl,rfl,rfl⟩,trivial⟩ (fun ext=>TL.on rfl rfl rfl (by rw [decide_eq_false_iff_not]; omega) <| TL.move hF rfl rfl TL.fin) ?_
    refine DR.stepV [_,_,_,_,_,_,_,_,_] rfl [(11,_,none),(83,_,some 6)] rfl rfl ⟨⟨rfl,by kernel_rfl⟩,⟨rfl,rfl,rfl⟩,trivial⟩ (fun ext=>TL.on rfl rfl rfl (by rw [decide_eq_false_iff_not]; omega) <| TL.move hF rfl rfl TL.fin) ?_
    refine DR.stepV [_,_,_,_,_,_,_,_,_,_] rfl [(84,_,some 7),(85,_,some 8),(83,_,some 6)] rfl rfl ⟨⟨rfl,rfl,rfl⟩,⟨rfl,rfl,rfl⟩,⟨rfl,rfl,rfl⟩,trivial⟩ (fun ext=>TL.on rfl rfl rfl (by rw [decide_eq_false_iff_not]; omega) <| TL.indexAddr hF rfl rfl (h8.tad pC_len (by decide) (i:=i) hil) (by omega) (by omega) rfl TL.fin) ?_
    refine DR.stepV [_,_,_,_,_,_,_,_,_,_,_] rfl [(86,_,some 9),(83,_,some 6)] rfl rfl ⟨⟨rfl,rfl,rfl⟩,⟨rfl,rfl,rfl⟩,trivial⟩ (fun ext=>TL.on rfl rfl rfl (by rw [decide_eq_false_iff_not]; omega) <| TL.indexAddrA hF rfl rfl (by omega) (by omega) rfl TL.fin) ?_
    refine DR.stepV [_,_,_,_,_,_,_,_,_,_,_,_] rfl [(87,_,some 10),(83,_,some 6)] rfl rfl ⟨⟨rfl,rfl,rfl⟩,⟨rfl,rfl,rfl⟩,trivial⟩ (fun ext=>TL.on rfl rfl rfl (by rw [decide_eq_false_iff_not]; omega) <| TL.load hF rfl (ldf i hil) rfl TL.fin) ?_
    refine DR.stepV [_,_,_,_,_,_,_,_,_,_,_,_,_] rfl [(7,_,none),(83,_,some 6)] rfl rfl ⟨⟨rfl,by kernel_rfl⟩,⟨rfl,rfl,rfl⟩,trivial⟩ (fun ext=>TL.on rfl rfl rfl (by rw [decide_eq_false_iff_not]; omega) <| TL.fieldAddr hF rfl rfl TL.fin) ?_
    refine DR.stepV [_,_,_,_,_,_,_,_,_,_,_,_,_,_] rfl [(89,_,some 12),(83,_,some 6)] rfl rfl ⟨⟨rfl,rfl,rfl⟩,⟨rfl,rfl,rfl⟩,trivial⟩ (fun ext=>TL.on rfl rfl rfl (by rw [decide_eq_false_iff_not]; omega) <| TL.load hF rfl (show At _ _ _ _ (.int .i64 st) from own_mem (b:=b7) (cs:=(wsC ⟨0,sz,st,0,0⟩).toArray) (e:=23) (fz:=(0,0)) (by simp) rfl) rfl TL.fin) ?_
    refine DR.stepV [_,_,_,_,_,_,_,_,_,_,_,_,_,_,_] rfl [(88,_,some 11),(90,_,some 13),(83,_,some 6)] rfl rfl ⟨⟨rfl,rfl,rfl⟩,⟨rfl,rfl,rfl⟩,⟨rfl,rfl,rfl⟩,trivial⟩ (fun ext=>TL.on rfl rfl rfl (by rw [decide_eq_false_iff_not]; omega) <| TL.remI hF rfl rfl (by omega) rfl TL.fin) ?_
    refine DR.stepV [_,_,_,_,_,_,_,_,_,_,_,_,_,_,_,_] rfl [(91,_,some 14),(83,_,some 6)] rfl rfl ⟨⟨rfl,rfl,rfl⟩,⟨rfl,rfl,rfl⟩,trivial⟩ (fun ext=>TL.on rfl rfl rfl (by rw [decide_eq_false_iff_not]; omega) <| TL.bin hF rfl rfl rfl rfl TL.fin) ?_
    refine DR.stepV [_,_,_,_,_,_,_,_,_,_,_,_,_,_,_,_,_] rfl [(83,_,some 6),(92,_,some 15)] rfl rfl ⟨⟨rfl,rfl,rfl⟩,⟨rfl,rfl,rfl⟩,trivial⟩ (fun ext=>TL.pickF hF rfl (by rw [decide_eq_false_iff_not]; omega) rfl rfl TL.fin) ?_
    refine DR.stepV [_,_,_,_,_,_,_,_,_,_,_,_,_,_,_,_,_,_] rfl [(93,_,some 16)] rfl rfl ⟨⟨rfl,rfl,rfl⟩,trivial⟩ (fun ext=>TL.move hF rfl rfl TL.fin) ?_
    refine DR.stepV [_,_,_,_,_,_,_,_,_,_,_,_,_,_,_,_,_,_,_] rfl [(8,_,none),(94,_,some 17)] rfl rfl ⟨⟨rfl,by kernel_rfl⟩,⟨rfl,rfl,rfl⟩,trivial⟩ (fun ext=>TL.on rfl rfl rfl (by rw [rem_mul _ (by omega) (by omega)]; rfl) <| TL.move hF rfl rfl TL.fin) ?_
    refine DR.stepV [_,_,_,_,_,_,_,_,_,_,_,_,_,_,_,_,_,_,_,_] rfl [(11,_,none),(94,_,some 17)] rfl rfl ⟨⟨rfl,by kernel_rfl⟩,⟨rfl,rfl,rfl⟩,trivial⟩ (fun ext=>TL.on rfl rfl rfl (by rw [rem_mul _ (by omega) (by omega)]; rfl) <| TL.move hF rfl rfl TL.fin) ?_
    refine DR.stepV [_,_,_,_,_,_,_,_,_,_,_,_,_,_,_,_,_,_,_,_,_] rfl [(95,_,some 18),(96,_,some 19),(94,_,some 17)] rfl rfl ⟨⟨rfl,rfl,rfl⟩,⟨rfl,rfl,rfl⟩,⟨rfl,rfl,rfl⟩,trivial⟩ (fun ext=>TL.on rfl rfl rfl (by rw [rem_mul _ (by omega) (by omega)]; rfl) <| TL.indexAddr hF rfl rfl (h8.tad pC_len (by decide) (i:=i) hil) (by omega) (by omega) rfl TL.fin) ?_
    refine DR.stepV [_,_,_,_,_,_,_,_,_,_,_,_,_,_,_,_,_,_,_,_,_,_] rfl [(97,_,some 20),(94,_,some 17)] rfl rfl ⟨⟨rfl,rfl,rfl⟩,⟨rfl,rfl,rfl⟩,trivial⟩ (fun ext=>TL.on rfl rfl rfl (by rw [rem_mul _ (by omega) (by omega)]; rfl) <| TL.indexAddrA hF rfl rfl (by omega) (by omega) rfl TL.fin) ?_
    refine DR.stepV [_,_,_,_,_,_,_,_,_,_,_,_,_,_,_,_,_,_,_,_,_,_,_] rfl [(98,_,some 21),(94,_,some 17)] rfl rfl ⟨⟨rfl,rfl,rfl⟩,⟨rfl,rfl,rfl⟩,trivial⟩ (fun ext=>TL.on rfl rfl rfl (by rw [rem_mul _ (by omega) (by omega)]; rfl) <| TL.load hF rfl (lds i hil) rfl TL.fin) ?_
    refine DR.stepV [_,_,_,_,_,_,_,_,_,_,_,_,_,_,_,_,_,_,_,_,_,_,_,_] rfl [(8,_,none),(94,_,some 17)] rfl rfl ⟨⟨rfl,by kernel_rfl⟩,⟨rfl,rfl,rfl⟩,trivial⟩ (fun ext=>TL.on rfl rfl rfl (by rw [rem_mul _ (by omega) (by omega)]; rfl) <| TL.move hF rfl rfl TL.fin) ?_
    refine DR.stepV [_,_,_,_,_,_,_,_,_,_,_,_,_,_,_,_,_,_,_,_,_,_,_,_,_] rfl [(11,_,none),(94,_,some 17)] rfl rfl ⟨⟨rfl,by kernel_rfl⟩,⟨rfl,rfl,rfl⟩,trivial⟩ (fun ext=>TL.on rfl rfl rfl (by rw [rem_mul _ (by omega) (by omega)]; rfl) <| TL.move hF rfl rfl TL.fin) ?_
    refine DR.stepV [_,_,_,_,_,_,_,_,_,_,_,_,_,_,_,_,_,_,_,_,_,_,_,_,_,_] rfl [(100,_,some 23),(101,_,some 24),(94,_,some 17)] rfl rfl ⟨⟨rfl,rfl,rfl⟩,⟨rfl,rfl,rfl⟩,⟨rfl,rfl,rfl⟩,trivial⟩ (fun ext=>TL.on rfl rfl rfl (by rw [rem_mul _ (by omega) (by omega)]; rfl) <| TL.indexAddr hF rfl rfl (h8.tad pC_len (by decide) (i:=i) hil) (by omega) (by omega) rfl TL.fin) ?_
    refine DR.stepV [_,_,_,_,_,_,_,_,_,_,_,_,_,_,_,_,_,_,_,_,_,_,_,_,_,_,_] rfl [(102,_,some 25),(94,_,some 17)] rfl rfl ⟨⟨rfl,rfl,rfl⟩,⟨rfl,rfl,rfl⟩,trivial⟩ (fun ext=>TL.on rfl rfl rfl (by rw [rem_mul _ (by omega) (by omega)]; rfl) <| TL.indexAddrA hF rfl rfl (by omega) (by omega) rfl TL.fin) ?_
    refine DR.stepV [_,_,_,_,_,_,_,_,_,_,_,_,_,_,_,_,_,_,_,_,_,_,_,_,_,_,_,_] rfl [(103,_,some 26),(94,_,some 17)] rfl rfl ⟨⟨rfl,rfl,rfl⟩,⟨rfl,rfl,rfl⟩,trivial⟩ (fun ext=>TL.on rfl rfl rfl (by rw [rem_mul _ (by omega) (by omega)]; rfl) <| TL.load hF rfl (ldf i hil) rfl TL.fin) ?_
    refine DR.stepV [_,_,_,_,_,_,_,_,_,_,_,_,_,_,_,_,_,_,_,_,_,_,_,_,_,_,_,_,_] rfl [(7,_,none),(94,_,some 17)] rfl rfl ⟨⟨rfl,by kernel_rfl⟩,⟨rfl,rfl,rfl⟩,trivial⟩ (fun ext=>TL.on rfl rfl rfl (by rw [rem_mul _ (by omega) (by omega)]; rfl) <| TL.fieldAddr hF rfl rfl TL.fin) ?_
    refine DR.stepV [_,_,_,_,_,_,_,_,_,_,_,_,_,_,_,_,_,_,_,_,_,_,_,_,_,_,_,_,_,_] rfl [(105,_,some 28),(94,_,some 17)] rfl rfl ⟨⟨rfl,rfl,rfl⟩,⟨rfl,rfl,rfl⟩,trivial⟩ (fun ext=>TL.on rfl rfl rfl (by rw [rem_mul _ (by omega) (by omega)]; rfl) <| TL.load hF rfl (show At _ _ _ _ (.int .i64 sz) from own_mem (b:=b7) (cs:=(wsC ⟨0,sz,st,0,0⟩).toArray) (e:=23) (fz:=(0,0)) (by simp) rfl) rfl TL.fin) ?_
    refine DR.stepV [_,_,_,_,_,_,_,_,_,_,_,_,_,_,_,_,_,_,_,_,_,_,_,_,_,_,_,_,_,_,_] rfl [(104,_,some 27),(106,_,some 29),(94,_,some 17)] rfl rfl ⟨⟨rfl,rfl,rfl⟩,⟨rfl,rfl,rfl⟩,⟨rfl,rfl,rfl⟩,trivial⟩ (fun ext=>TL.on rfl rfl rfl (by rw [rem_mul _ (by omega) (by omega)]; rfl) <| TL.add hF rfl rfl (by omega) (by omega) rfl TL.fin) ?_
    refine DR.stepV [_,_,_,_,_,_,_,_,_,_,_,_,_,_,_,_,_,_,_,_,_,_,_,_,_,_,_,_,_,_,_,_] rfl [(99,_,some 22),(107,_,some 30),(94,_,some 17)] rfl rfl ⟨⟨rfl,rfl,rfl⟩,⟨rfl,rfl,rfl⟩,⟨rfl,rfl,rfl⟩,trivial⟩ (fun ext=>TL.on rfl rfl rfl (by rw [rem_mul _ (by omega) (by omega)]; rfl) <| TL.bin hF rfl rfl rfl rfl TL.fin) ?_
    refine DR.stepV [_,_,_,_,_,_,_,_,_,_,_,_,_,_,_,_,_,_,_,_,_,_,_,_,_,_,_,_,_,_,_,_,_] rfl [(94,_,some 17),(108,_,some 31)] rfl rfl ⟨⟨rfl,rfl,rfl⟩,⟨rfl,rfl,rfl⟩,trivial⟩ (fun ext=>TL.pickF hF rfl (by rw [rem_mul _ (by omega) (by omega)]; rfl) rfl rfl TL.fin) ?_
    refine DR.stepV [_,_,_,_,_,_,_,_,_,_,_,_,_,_,_,_,_,_,_,_,_,_,_,_,_,_,_,_,_,_,_,_,_,_] rfl [(109,_,some 32)] rfl rfl ⟨⟨rfl,rfl,rfl⟩,trivial⟩ (fun ext=>TL.move hF rfl rfl TL.fin) ?_
    refine DR.stepV [_,_,_,_,_,_,_,_,_,_,_,_,_,_,_,_,_,_,_,_,_,_,_,_,_,_,_,_,_,_,_,_,_,_,_] rfl [(2,_,none),(110,_,some 33)] rfl rfl ⟨⟨rfl,by kernel_rfl⟩,⟨rfl,rfl,rfl⟩,trivial⟩ (fun ext=>TL.on rfl rfl rfl (by simp) <| TL.move hF rfl rfl TL.fin) ?_
    refine DR.stepV [_,_,_,_,_,_,_,_,_,_,_,_,_,_,_,_,_,_,_,_,_,_,_,_,_,_,_,_,_,_,_,_,_,_,_,_] rfl [(8,_,none),(110,_,some 33)] rfl rfl ⟨⟨rfl,by kernel_rfl⟩,⟨rfl,rfl,rfl⟩,trivial⟩ (fun ext=>TL.on rfl rfl rfl (by simp) <| TL.move hF rfl rfl TL.fin) ?_
    refine DR.stepV [_,_,_,_,_,_,_,_,_,_,_,_,_,_,_,_,_,_,_,_,_,_,_,_,_,_,_,_,_,_,_,_,_,_,_,_,_] rfl [(11,_,none),(110,_,some 33)] rfl rfl ⟨⟨rfl,by kernel_rfl⟩,⟨rfl,rfl,rfl⟩,trivial⟩ (fun ext=>TL.on rfl rfl rfl (by simp) <| TL.move hF rfl rfl TL.fin) ?_
    refine DR.stepV [_,_,_,_,_,_,_,_,_,_,_,_,_,_,_,_,_,_,_,_,_,_,_,_,_,_,_,_,_,_,_,_,_,_,_,_,_,_] rfl [(112,_,some 35),(113,_,some 36),(110,_,some 33)] rfl rfl ⟨⟨rfl,rfl,rfl⟩,⟨rfl,rfl,rfl⟩,⟨rfl,rfl,rfl⟩,trivial⟩ (fun ext=>TL.on rfl rfl rfl (by simp) <| TL.indexAddr hF rfl rfl (h8.tad pC_len (by decide) (i:=i) hil) (by omega) (by omega) rfl TL.fin) ?_
    refine DR.stepV [_,_,_,_,_,_,_,_,_,_,_,_,_,_,_,_,_,_,_,_,_,_,_,_,_,_,_,_,_,_,_,_,_,_,_,_,_,_,_] rfl [(114,_,some 37),(110,_,some 33)] rfl rfl ⟨⟨rfl,rfl,rfl⟩,⟨rfl,rfl,rfl⟩,trivial⟩ (fun ext=>TL.on rfl rfl rfl (by simp) <| TL.indexAddrA hF rfl rfl (by omega) (by omega) rfl TL.fin) ?_
    refine DR.stepV [_,_,_,_,_,_,_,_,_,_,_,_,_,_,_,_,_,_,_,_,_,_,_,_,_,_,_,_,_,_,_,_,_,_,_,_,_,_,_,_] rfl [(115,_,some 38),(110,_,some 33)] rfl rfl ⟨⟨rfl,rfl,rfl⟩,⟨rfl,rfl,rfl⟩,trivial⟩ (fun ext=>TL.on rfl rfl rfl (by simp) <| TL.load hF rfl (ldf i hil) rfl TL.fin) ?_
    refine DR.stepV [_,_,_,_,_,_,_,_,_,_,_,_,_,_,_,_,_,_,_,_,_,_,_,_,_,_,_,_,_,_,_,_,_,_,_,_,_,_,_,_,_] rfl [(8,_,none),(110,_,some 33)] rfl rfl ⟨⟨rfl,by kernel_rfl⟩,⟨rfl,rfl,rfl⟩,trivial⟩ (fun ext=>TL.on rfl rfl rfl (by simp) <| TL.move hF rfl rfl TL.fin) ?_
    refine DR.stepV [_,_,_,_,_,_,_,_,_,_,_,_,_,_,_,_,_,_,_,_,_,_,_,_,_,_,_,_,_,_,_,_,_,_,_,_,_,_,_,_,_,_] rfl [(11,_,none),(110,_,some 33)] rfl rfl ⟨⟨rfl,by kernel_rfl⟩,⟨rfl,rfl,rfl⟩,trivial⟩ (fun ext=>TL.on rfl rfl rfl (by simp) <| TL.move hF rfl rfl TL.fin) ?_
    refine DR.stepV [_,_,_,_,_,_,_,_,_,_,_,_,_,_,_,_,_,_,_,_,_,_,_,_,_,_,_,_,_,_,_,_,_,_,_,_,_,_,_,_,_,_,_] rfl [(117,_,some 40),(118,_,some 41),(110,_,some 33)] rfl rfl ⟨⟨rfl,rfl,rfl⟩,⟨rfl,rfl,rfl⟩,⟨rfl,rfl,rfl⟩,trivial⟩ (fun ext=>TL.on rfl rfl rfl (by simp) <| TL.indexAddr hF rfl rfl (h8.tad pC_len (by decide) (i:=i) hil) (by omega) (by omega) rfl TL.fin) ?_
    refine DR.stepV [_,_,_,_,_,_,_,_,_,_,_,_,_,_,_,_,_,_,_,_,_,_,_,_,_,_,_,_,_,_,_,_,_,_,_,_,_,_,_,_,_,_,_,_] rfl [(119,_,some 42),(110,_,some 33)] rfl rfl ⟨⟨rfl,rfl,rfl⟩,⟨rfl,rfl,rfl⟩,trivial⟩ (fun ext=>TL.on rfl rfl rfl (by simp) <| TL.indexAddrA hF rfl rfl (by omega) (by omega) rfl TL.fin) ?_
    refine DR.stepV [_,_,_,_,_,_,_,_,_,_,_,_,_,_,_,_,_,_,_,_,_,_,_,_,_,_,_,_,_,_,_,_,_,_,_,_,_,_,_,_,_,_,_,_,_] rfl [(120,_,some 43),(110,_,some 33)] rfl rfl ⟨⟨rfl,rfl,rfl⟩,⟨rfl,rfl,rfl⟩,trivial⟩ (fun ext=>TL.on rfl rfl rfl (by simp) <| TL.load hF rfl (lds i hil) rfl TL.fin) ?_
    refine DR.stepV [_,_,_,_,_,_,_,_,_,_,_,_,_,_,_,_,_,_,_,_,_,_,_,_,_,_,_,_,_,_,_,_,_,_,_,_,_,_,_,_,_,_,_,_,_,_] rfl [(121,_,some 44),(110,_,some 33)] rfl rfl ⟨⟨rfl,rfl,rfl⟩,⟨rfl,rfl,rfl⟩,trivial⟩ (fun ext=>TL.on rfl rfl rfl (by simp) <| TL.sub hF rfl rfl (by omega) (by omega) rfl TL.fin) ?_
    refine DR.stepV [_,_,_,_,_,_,_,_,_,_,_,_,_,_,_,_,_,_,_,_,_,_,_,_,_,_,_,_,_,_,_,_,_,_,_,_,_,_,_,_,_,_,_,_,_,_,_] rfl [(111,_,some 34),(116,_,some 39),(122,_,some 45),(110,_,some 33)] rfl rfl ⟨⟨rfl,rfl,rfl⟩,⟨rfl,rfl,rfl⟩,⟨rfl,rfl,rfl⟩,⟨rfl,rfl,rfl⟩,trivial⟩ (fun ext=>TL.on rfl rfl rfl (by simp) <| TL.callV hF (Lies_fn t ((firstS ⟨0,sz,st,0,0⟩ t+i)*st) ((firstS ⟨0,sz,st,0,0⟩ t+i)*st+sz - 1)) rfl rfl TL.fin) ?_
    refine DR.stepV [_,_,_,_,_,_,_,_,_,_,_,_,_,_,_,_,_,_,_,_,_,_,_,_,_,_,_,_,_,_,_,_,_,_,_,_,_,_,_,_,_,_,_,_,_,_,_,_] rfl [(123,_,some 46),(110,_,some 33)] rfl rfl ⟨⟨rfl,rfl,rfl⟩,⟨rfl,rfl,rfl⟩,trivial⟩ (fun ext=>TL.on rfl rfl rfl (by simp) <| TL.not hF rfl rfl TL.fin) ?_
    refine DR.stepV [_,_,_,_,_,_,_,_,_,_,_,_,_,_,_,_,_,_,_,_,_,_,_,_,_,_,_,_,_,_,_,_,_,_,_,_,_,_,_,_,_,_,_,_,_,_,_,_,_] rfl [(110,_,some 33),(124,_,some 47)] rfl rfl ⟨⟨rfl,rfl,rfl⟩,⟨rfl,rfl,rfl⟩,trivial⟩ (fun ext=>TL.pickF hF rfl (by simp) rfl rfl TL.fin) ?_
    refine DR.stepV [_,_,_,_,_,_,_,_,_,_,_,_,_,_,_,_,_,_,_,_,_,_,_,_,_,_,_,_,_,_,_,_,_,_,_,_,_,_,_,_,_,_,_,_,_,_,_,_,_,_] rfl [(125,_,some 48)] rfl rfl ⟨⟨rfl,rfl,rfl⟩,trivial⟩ (fun ext=>TL.move hF rfl rfl TL.fin) ?_
    refine DR.stepV [_,_,_,_,_,_,_,_,_,_,_,_,_,_,_,_,_,_,_,_,_,_,_,_,_,_,_,_,_,_,_,_,_,_,_,_,_,_,_,_,_,_,_,_,_,_,_,_,_,_,_] rfl [(11,_,none),(126,_,some 49)] rfl rfl ⟨⟨rfl,by kernel_rfl⟩,⟨rfl,rfl,rfl⟩,trivial⟩ (fun ext=>TL.on rfl rfl rfl (by simp; omega) <| TL.move hF rfl rfl TL.fin) ?_
    refine DR.stepV [_,_,_,_,_,_,_,_,_,_,_,_,_,_,_,_,_,_,_,_,_,_,_,_,_,_,_,_,_,_,_,_,_,_,_,_,_,_,_,_,_,_,_,_,_,_,_,_,_,_,_,_] rfl [(127,_,some 50),(126,_,some 49)] rfl rfl ⟨⟨rfl,rfl,rfl⟩,⟨rfl,rfl,rfl⟩,trivial⟩ (fun ext=>TL.on rfl rfl rfl (by simp; omega) <| TL.bin hF rfl rfl rfl rfl TL.fin) ?_
    refine DR.stepV [_,_,_,_,_,_,_,_,_,_,_,_,_,_,_,_,_,_,_,_,_,_,_,_,_,_,_,_,_,_,_,_,_,_,_,_,_,_,_,_,_,_,_,_,_,_,_,_,_,_,_,_,_] rfl [(128,_,some 51),(126,_,some 49)] rfl rfl ⟨⟨rfl,rfl,rfl⟩,⟨rfl,rfl,rfl⟩,trivial⟩ (fun ext=>TL.on rfl rfl rfl (by simp; omega) <| TL.move hF rfl rfl TL.fin) ?_
    refine DR.stepV [_,_,_,_,_,_,_,_,_,_,_,_,_,_,_,_,_,_,_,_,_,_,_,_,_,_,_,_,_,_,_,_,_,_,_,_,_,_,_,_,_,_,_,_,_,_,_,_,_,_,_,_,_,_] rfl [(8,_,none),(129,_,some 52)] rfl rfl ⟨⟨rfl,by kernel_rfl⟩,⟨rfl,rfl,rfl⟩,trivial⟩ (fun ext=>TL.on rfl rfl rfl (by simp; omega) <| TL.move hF rfl rfl TL.fin) ?_
    refine DR.stepV [_,_,_,_,_,_,_,_,_,_,_,_,_,_,_,_,_,_,_,_,_,_,_,_,_,_,_,_,_,_,_,_,_,_,_,_,_,_,_,_,_,_,_,_,_,_,_,_,_,_,_,_,_,_,_] rfl [(11,_,none),(129,_,some 52)] rfl rfl ⟨⟨rfl,by kernel_rfl⟩,⟨rfl,rfl,rfl⟩,trivial⟩ (fun ext=>TL.on rfl rfl rfl (by simp; omega) <| TL.move hF rfl rfl TL.fin) ?_
    refine DR.stepV [_,_,_,_,_,_,_,_,_,_,_,_,_,_,_,_,_,_,_,_,_,_,_,_,_,_,_,_,_,_,_,_,_,_,_,_,_,_,_,_,_,_,_,_,_,_,_,_,_,_,_,_,_,_,_,_] rfl [(130,_,some 53),(131,_,some 54),(129,_,some 52)] rfl rfl ⟨⟨rfl,rfl,rfl⟩,⟨rfl,rfl,rfl⟩,⟨rfl,rfl,rfl⟩,trivial⟩ (fun ext=>TL.on rfl rfl rfl (by simp; omega) <| TL.indexAddr hF rfl rfl (h8.tad pC_len (by decide) (i:=i) hil) (by omega) (by omega) rfl TL.fin) ?_
    refine DR.stepV [_,_,_,_,_,_,_,_,_,_,_,_,_,_,_,_,_,_,_,_,_,_,_,_,_,_,_,_,_,_,_,_,_,_,_,_,_,_,_,_,_,_,_,_,_,_,_,_,_,_,_,_,_,_,_,_,_] rfl [(132,_,some 55),(129,_,some 52)] rfl rfl ⟨⟨rfl,rfl,rfl⟩,⟨rfl,rfl,rfl⟩,trivial⟩ (fun ext=>TL.on rfl rfl rfl (by simp; omega) <| TL.indexAddrA hF rfl rfl (by omega) (by omega) rfl TL.fin) ?_
    refine DR.stepV [_,_,_,_,_,_,_,_,_,_,_,_,_,_,_,_,_,_,_,_,_,_,_,_,_,_,_,_,_,_,_,_,_,_,_,_,_,_,_,_,_,_,_,_,_,_,_,_,_,_,_,_,_,_,_,_,_,_] rfl [(133,_,some 56),(129,_,some 52)] rfl rfl ⟨⟨rfl,rfl,rfl⟩,⟨rfl,rfl,rfl⟩,trivial⟩ (fun ext=>TL.on rfl rfl rfl (by simp; omega) <| TL.load hF rfl (ldf i hil) rfl TL.fin) ?_
    refine DR.stepV [_,_,_,_,_,_,_,_,_,_,_,_,_,_,_,_,_,_,_,_,_,_,_,_,_,_,_,_,_,_,_,_,_,_,_,_,_,_,_,_,_,_,_,_,_,_,_,_,_,_,_,_,_,_,_,_,_,_,_] rfl [(8,_,none),(129,_,some 52)] rfl rfl ⟨⟨rfl,by kernel_rfl⟩,⟨rfl,rfl,rfl⟩,trivial⟩ (fun ext=>TL.on rfl rfl rfl (by simp; omega) <| TL.move hF rfl rfl TL.fin) ?_
    refine DR.stepV [_,_,_,_,_,_,_,_,_,_,_,_,_,_,_,_,_,_,_,_,_,_,_,_,_,_,_,_,_,_,_,_,_,_,_,_,_,_,_,_,_,_,_,_,_,_,_,_,_,_,_,_,_,_,_,_,_,_,_,_] rfl [(11,_,none),(129,_,some 52)] rfl rfl ⟨⟨rfl,by kernel_rfl⟩,⟨rfl,rfl,rfl⟩,trivial⟩ (fun ext=>TL.on rfl rfl rfl (by simp; omega) <| TL.move hF rfl rfl TL.fin) ?_
    refine DR.stepV [_,_,_,_,_,_,_,_,_,_,_,_,_,_,_,_,_,_,_,_,_,_,_,_,_,_,_,_,_,_,_,_,_,_,_,_,_,_,_,_,_,_,_,_,_,_,_,_,_,_,_,_,_,_,_,_,_,_,_,_,_] rfl [(136,_,some 59),(129,_,some 52)] rfl rfl ⟨⟨rfl,rfl,rfl⟩,⟨rfl,rfl,rfl⟩,trivial⟩ (fun ext=>TL.on rfl rfl rfl (by simp; omega) <| TL.sub hF rfl rfl (by omega) (by omega) rfl TL.fin) ?_
    refine DR.stepV [_,_,_,_,_,_,_,_,_,_,_,_,_,_,_,_,_,_,_,_,_,_,_,_,_,_,_,_,_,_,_,_,_,_,_,_,_,_,_,_,_,_,_,_,_,_,_,_,_,_,_,_,_,_,_,_,_,_,_,_,_,_] rfl [(135,_,some 58),(137,_,some 60),(129,_,some 52)] rfl rfl ⟨⟨rfl,rfl,rfl⟩,⟨rfl,rfl,rfl⟩,⟨rfl,rfl,rfl⟩,trivial⟩ (fun ext=>TL.on rfl rfl rfl (by simp; omega) <| TL.indexAddr hF rfl rfl (h8.tad pC_len (by decide) (i:=i - 1) (by omega)) (by omega) (by omega) rfl TL.fin) ?_
    refine DR.stepV [_,_,_,_,_,_,_,_,_,_,_,_,_,_,_,_,_,_,_,_,_,_,_,_,_,_,_,_,_,_,_,_,_,_,_,_,_,_,_,_,_,_,_,_,_,_,_,_,_,_,_,_,_,_,_,_,_,_,_,_,_,_,_] rfl [(138,_,some 61),(129,_,some 52)] rfl rfl ⟨⟨rfl,rfl,rfl⟩,⟨rfl,rfl,rfl⟩,trivial⟩ (fun ext=>TL.on rfl rfl rfl (by simp; omega) <| TL.indexAddrA hF rfl rfl (by omega) (by omega) rfl TL.fin) ?_
    refine DR.stepV [_,_,_,_,_,_,_,_,_,_,_,_,_,_,_,_,_,_,_,_,_,_,_,_,_,_,_,_,_,_,_,_,_,_,_,_,_,_,_,_,_,_,_,_,_,_,_,_,_,_,_,_,_,_,_,_,_,_,_,_,_,_,_,_] rfl [(139,_,some 62),(129,_,some 52)] rfl rfl ⟨⟨rfl,rfl,rfl⟩,⟨rfl,rfl,rfl⟩,trivial⟩ (fun ext=>TL.on rfl rfl rfl (by simp; omega) <| TL.load hF rfl (by rw [show ((i:Int)-1).toNat=i - 1 by omega]; exact ldf (i - 1) (by omega)) rfl TL.fin) ?_
    refine DR.stepV [_,_,_,_,_,_,_,_,_,_,_,_,_,_,_,_,_,_,_,_,_,_,_,_,_,_,_,_,_,_,_,_,_,_,_,_,_,_,_,_,_,_,_,_,_,_,_,_,_,_,_,_,_,_,_,_,_,_,_,_,_,_,_,_,_] rfl [(7,_,none),(129,_,some 52)] rfl rfl ⟨⟨rfl,by kernel_rfl⟩,⟨rfl,rfl,rfl⟩,trivial⟩ (fun ext=>TL.on rfl rfl rfl (by simp; omega) <| TL.fieldAddr hF rfl rfl TL.fin) ?_
    refine DR.stepV [_,_,_,_,_,_,_,_,_,_,_,_,_,_,_,_,_,_,_,_,_,_,_,_,_,_,_,_,_,_,_,_,_,_,_,_,_,_,_,_,_,_,_,_,_,_,_,_,_,_,_,_,_,_,_,_,_,_,_,_,_,_,_,_,_,_] rfl [(141,_,some 64),(129,_,some 52)] rfl rfl ⟨⟨rfl,rfl,rfl⟩,⟨rfl,rfl,rfl⟩,trivial⟩ (fun ext=>TL.on rfl rfl rfl (by simp; omega) <| TL.load hF rfl (show At _ _ _ _ (.int .i64 st) from own_mem (b:=b7) (cs:=(wsC ⟨0,sz,st,0,0⟩).toArray) (e:=23) (fz:=(0,0)) (by simp) rfl) rfl TL.fin) ?_
    refine DR.stepV [_,_,_,_,_,_,_,_,_,_,_,_,_,_,_,_,_,_,_,_,_,_,_,_,_,_,_,_,_,_,_,_,_,_,_,_,_,_,_,_,_,_,_,_,_,_,_,_,_,_,_,_,_,_,_,_,_,_,_,_,_,_,_,_,_,_,_] rfl [(140,_,some 63),(142,_,some 65),(129,_,some 52)] rfl rfl ⟨⟨rfl,rfl,rfl⟩,⟨rfl,rfl,rfl⟩,⟨rfl,rfl,rfl⟩,trivial⟩ (fun ext=>TL.on rfl rfl rfl (by simp; omega) <| TL.add hF rfl rfl (by have:=hstep hi0; omega) (by have:=hstep hi0; omega) rfl TL.fin) ?_
    refine DR.done [(143,_),(142,_),(141,_),(140,_),(139,_),(138,_),(137,_),(136,_),(135,_),(134,_),(133,_),(132,_),(131,_),(130,_),(129,_),(128,_),(127,_),(126,_),(125,_),(124,_),(123,_),(122,_),(121,_),(120,_),(119,_),(118,_),(117,_),(116,_),(115,_),(114,_),(113,_),(112,_),(111,_),(110,_),(109,_),(108,_),(107,_),(106,_),(105,_),(104,_),(103,_),(102,_),(101,_),(100,_),(99,_),(98,_),(97,_),(96,_),(95,_),(94,_),(93,_),(92,_),(91,_),(90,_),(89,_),(88,_),(87,_),(86,_),(85,_),(84,_),(83,_),(82,_),(81,_),(80,_),(79,_),(78,_),(77,_)] [_,_,_] mixed (by kernel_rfl) (by kernel_rfl) (by kernel_rfl) rfl rfl ?_
    refine TL.on rfl rfl rfl (by simp; omega) ?_
    refine TL.bin hF rfl rfl rfl rfl ?_
    refine TL.on rfl rfl rfl (by simp; omega) ?_
    refine TL.pickT hF rfl (by simp; omega) rfl rfl ?_
    refine TL.pickF hF rfl (by simp; omega) rfl rfl ?_
    refine TL.nil ?_
    refine TQ.then_n ?_
    refine T.cond_f rfl (by first | rfl | (rw [hstep hi0]; simp)) ?_
    refine T.skip ?_
    refine TQ.block_n ?_
    refine TQ.then_n ?_
    refine T.region ?_
    refine TL.move hF rfl rfl ?_
    refine TL.add hF rfl rfl (by omega) (by omega) rfl ?_
    refine TL.assign hF rfl rfl ?_
    refine TL.nil ?_
    exact TQ.round (i+1) (by omega) (by omega) ⟨rfl,rfl,rfl,rfl,rfl,trivial⟩ rfl
   ·have hil:i<sp.length:=by have h:(i:Int)<(sp.length:Int):=ht74; omega
    have hat:∀ j:Nat,(hj:j<sp.length)→sp[j]=((firstS ⟨0,sz,st,0,0⟩ t+j)*st,(firstS ⟨0,sz,st,0,0⟩ t+j)*st+sz):=fun j hj=>by
     have h1:=spans_at (s:=⟨0,sz,st,0,0⟩) (t:=t) (i:=j) (by omega)
     rw [← hsp,List.getElem?_eq_getElem hj] at h1
     exact Option.some.inj h1
    have ldf:∀ (j:Nat) (hj:j<sp.length),At S1 w1 ([(b7,Obj.cells (wsC ⟨0,sz,st,0,0⟩).toArray 23 (0,0))]::η) ⟨(sAt wa (j*2)).block,(sAt wa (j*2)).off+0,none⟩ (.int .i64 ((firstS ⟨0,sz,st,0,0⟩ t+j)*st)):=fun j hj=>by
     have h1:=(h8.up (η':=[(b7,Obj.cells (wsC ⟨0,sz,st,0,0⟩).toArray 23 (0,0))]::η) (by simp)).tabA pC_len hj 0 (.int .i64 sp[j].1) rfl
     rw [hat j hj] at h1; exact h1
    have lds:∀ (j:Nat) (hj:j<sp.length),At S1 w1 ([(b7,Obj.cells (wsC ⟨0,sz,st,0,0⟩).toArray 23 (0,0))]::η) ⟨(sAt wa (j*2)).block,(sAt wa (j*2)).off+1,none⟩ (.int .i64 ((firstS ⟨0,sz,st,0,0⟩ t+j)*st+sz)):=fun j hj=>by
     have h1:=(h8.up (η':=[(b7,Obj.cells (wsC ⟨0,sz,st,0,0⟩).toArray 23 (0,0))]::η) (by simp)).tabA pC_len hj 1 (.int .i64 sp[j].2) rfl
     rw [hat j hj] at h1; exact h1
    have hmem:sp[i]∈spansS ⟨0,sz,st,0,0⟩ t:=by rw [← hsp]; exact List.getElem_mem hil
    have hin:=(mem_spans htok.sp).1 hmem
    rw [hat i hil] at hin
    obtain ⟨_,hi1,hi2⟩:=hin
    dsimp only at hi1 hi2
    have hstep:0<i→(firstS ⟨0,sz,st,0,0⟩ t+i)*st=(firstS ⟨0,sz,st,0,0⟩ t+((i - 1:Nat):Int))*st+st:=fun h=>by rw [show (i:Int)=((i - 1:Nat):Int)+1 by omega,← Int.add_assoc,Int.add_mul,Int.one_mul]
    have hnn:0≤(firstS ⟨0,sz,st,0,0⟩ t+i)*st:=Int.mul_nonneg (by omega) (by omega)
    refine T.draw ?_
    refine DR.stepV [_] rfl [(8,_,none)] rfl rfl ⟨⟨rfl,by kernel_rfl⟩,trivial⟩ (fun ext=>TL.move hF rfl rfl TL.fin) ?_
    refine DR.stepV [_,_] rfl [(11,_,none)] rfl rfl ⟨⟨rfl,by kernel_rfl⟩,trivial⟩ (fun ext=>TL.move hF rfl rfl TL.fin) ?_
    refine DR.stepV [_,_,_] rfl [(77,_,some 0),(78,_,some 1)] rfl rfl ⟨⟨rfl,rfl,rfl⟩,⟨rfl,rfl,rfl⟩,trivial⟩ (fun ext=>TL.indexAddr hF rfl rfl (h8.tad pC_len (by decide) (i:=i) hil) (by omega) (by omega) rfl TL.fin) ?_
    refine DR.stepV [_,_,_,_] rfl [(79,_,some 2)] rfl rfl ⟨⟨rfl,rfl,rfl⟩,trivial⟩ (fun ext=>TL.indexAddrA hF rfl rfl (by omega) (by omega) rfl TL.fin) ?_
    refine DR.stepV [_,_,_,_,_] rfl [(80,_,some 3)] rfl rfl ⟨⟨rfl,rfl,rfl⟩,trivial⟩ (fun ext=>TL.load hF rfl (ldf i hil) rfl TL.fin) ?_
    refine DR.stepV [_,_,_,_,_,_] rfl [(81,_,some 4)] rfl rfl ⟨⟨rfl,rfl,rfl⟩,trivial⟩ (fun ext=>TL.bin hF rfl rfl rfl rfl TL.fin) ?_
    refine DR.stepV [_,_,_,_,_,_,_] rfl [(82,_,some 5)] rfl rfl ⟨⟨rfl,rfl,rfl⟩,trivial⟩ (fun ext=>TL.move hF rfl rfl TL.fin) ?_
    refine DR.stepV [_,_,_,_,_,_,_,_] rfl [(8,_,none),(83,_,some 6)] rfl rfl ⟨⟨rfl,by kernel_rfl⟩,⟨rfl,rfl,rfl⟩,trivial⟩ (fun ext=>TL.on rfl rfl rfl (by rw [decide_eq_false_iff_not]; omega) <| TL.move hF rfl rfl TL.fin) ?_
    refine DR.stepV [_,_,_,_,_,_,_,_,_] rfl [(11,_,none),(83,_,some 6)] rfl rfl ⟨⟨rfl,by kernel_rfl⟩,⟨rfl,rfl,rfl⟩,trivial⟩ (fun ext=>TL.on rfl rfl rfl (by rw [decide_eq_false_iff_not]; omega) <| TL.move hF rfl rfl TL.fin) ?_
    refine DR.stepV [_,_,_,_,_,_,_,_,_,_] rfl [(84,_,some 7),(85,_,some 8),(83,_,some 6)] rfl rfl ⟨⟨rfl,rfl,rfl⟩,⟨rfl,rfl,rfl⟩,⟨rfl,rfl,rfl⟩,trivial⟩ (fun ext=>TL.on rfl rfl rfl (by rw [decide_eq_false_iff_not]; omega) <| TL.indexAddr hF rfl rfl (h8.tad pC_len (by decide) (i:=i) hil) (by omega) (by omega) rfl TL.fin) ?_
    refine DR.stepV [_,_,_,_,_,_,_,_,_,_,_] rfl [(86,_,some 9),(83,_,some 6)] rfl rfl ⟨⟨rfl,rfl,rfl⟩,⟨rfl,rfl,rfl⟩,trivial⟩ (fun ext=>TL.on rfl rfl rfl (by rw [decide_eq_false_iff_not]; omega) <| TL.indexAddrA hF rfl rfl (by omega) (by omega) rfl TL.fin) ?_
    refine DR.stepV [_,_,_,_,_,_,_,_,_,_,_,_] rfl [(87,_,some 10),(83,_,some 6)] rfl rfl ⟨⟨rfl,rfl,rfl⟩,⟨rfl,rfl,rfl⟩,trivial⟩ (fun ext=>TL.on rfl rfl rfl (by rw [decide_eq_false_iff_not]; omega) <| TL.load hF rfl (ldf i hil) rfl TL.fin) ?_
    refine DR.stepV [_,_,_,_,_,_,_,_,_,_,_,_,_] rfl [(7,_,none),(83,_,some 6)] rfl rfl ⟨⟨rfl,by kernel_rfl⟩,⟨rfl,rfl,rfl⟩,trivial⟩ (fun ext=>TL.on rfl rfl rfl (by rw [decide_eq_false_iff_not]; omega) <| TL.fieldAddr hF rfl rfl TL.fin) ?_
    refine DR.stepV [_,_,_,_,_,_,_,_,_,_,_,_,_,_] rfl [(89,_,some 12),(83,_,some 6)] rfl rfl ⟨⟨rfl,rfl,rfl⟩,⟨rfl,rfl,rfl⟩,trivial⟩ (fun ext=>TL.on rfl rfl rfl (by rw [decide_eq_false_iff_not]; omega) <| TL.load hF rfl (show At _ _ _ _ (.int .i64 st) from own_mem (b:=b7) (cs:=(wsC ⟨0,sz,st,0,0⟩).toArray) (e:=23) (fz:=(0,0)) (by simp) rfl) rfl TL.fin) ?_
    refine DR.stepV [_,_,_,_,_,_,_,_,_,_,_,_,_,_,_] rfl [(88,_,some 11),(90,_,some 13),(83,_,some 6)] rfl rfl ⟨⟨rfl,rfl,rfl⟩,⟨rfl,rfl,rfl⟩,⟨rfl,rfl,rfl⟩,trivial⟩ (fun ext=>TL.on rfl rfl rfl (by rw [decide_eq_false_iff_not]; omega) <| TL.remI hF rfl rfl (by omega) rfl TL.fin) ?_
    refine DR.stepV [_,_,_,_,_,_,_,_,_,_,_,_,_,_,_,_] rfl [(91,_,some 14),(83,_,some 6)] rfl rfl ⟨⟨rfl,rfl,rfl⟩,⟨rfl,rfl,rfl⟩,trivial⟩ (fun ext=>TL.on rfl rfl rfl (by rw [decide_eq_false_iff_not]; omega) <| TL.bin hF rfl rfl rfl rfl TL.fin) ?_
    refine DR.stepV [_,_,_,_,_,_,_,_,_,_,_,_,_,_,_,_,_] rfl [(83,_,some 6),(92,_,some 15)] rfl rfl ⟨⟨rfl,rfl,rfl⟩,⟨rfl,rfl,rfl⟩,trivial⟩ (fun ext=>TL.pickF hF rfl (by rw [decide_eq_false_iff_not]; omega) rfl rfl TL.fin) ?_
    refine DR.stepV [_,_,_,_,_,_,_,_,_,_,_,_,_,_,_,_,_,_] rfl [(93,_,some 16)] rfl rfl ⟨⟨rfl,rfl,rfl⟩,trivial⟩ (fun ext=>TL.move hF rfl rfl TL.fin) ?_
    refine DR.stepV [_,_,_,_,_,_,_,_,_,_,_,_,_,_,_,_,_,_,_] rfl [(8,_,none),(94,_,some 17)] rfl rfl ⟨⟨rfl,by kernel_rfl⟩,⟨rfl,rfl,rfl⟩,trivial⟩ (fun ext=>TL.on rfl rfl rfl (by rw [rem_mul _ (by omega) (by omega)]; rfl) <| TL.move hF rfl rfl TL.fin) ?_
    refine DR.stepV [_,_,_,_,_,_,_,_,_,_,_,_,_,_,_,_,_,_,_,_] rfl [(11,_,none),(94,_,some 17)] rfl rfl ⟨⟨rfl,by kernel_rfl⟩,⟨rfl,rfl,rfl⟩,trivial⟩ (fun ext=>TL.on rfl rfl rfl (by rw [rem_mul _ (by omega) (by omega)]; rfl) <| TL.move hF rfl rfl TL.fin) ?_
    refine DR.stepV [_,_,_,_,_,_,_,_,_,_,_,_,_,_,_,_,_,_,_,_,_] rfl [(95,_,some 18),(96,_,some 19),(94,_,some 17)] rfl rfl ⟨⟨rfl,rfl,rfl⟩,⟨rfl,rfl,rfl⟩,⟨rfl,rfl,rfl⟩,trivial⟩ (fun ext=>TL.on rfl rfl rfl (by rw [rem_mul _ (by omega) (by omega)]; rfl) <| TL.indexAddr hF rfl rfl (h8.tad pC_len (by decide) (i:=i) hil) (by omega) (by omega) rfl TL.fin) ?_
    refine DR.stepV [_,_,_,_,_,_,_,_,_,_,_,_,_,_,_,_,_,_,_,_,_,_] rfl [(97,_,some 20),(94,_,some 17)] rfl rfl ⟨⟨rfl,rfl,rfl⟩,⟨rfl,rfl,rfl⟩,trivial⟩ (fun ext=>TL.on rfl rfl rfl (by rw [rem_mul _ (by omega) (by omega)]; rfl) <| TL.indexAddrA hF rfl rfl (by omega) (by omega) rfl TL.fin) ?_
    refine DR.stepV [_,_,_,_,_,_,_,_,_,_,_,_,_,_,_,_,_,_,_,_,_,_,_] rfl [(98,_,some 21),(94,_,some 17)] rfl rfl ⟨⟨rfl,rfl,rfl⟩,⟨rfl,rfl,rfl⟩,trivial⟩ (fun ext=>TL.on rfl rfl rfl (by rw [rem_mul _ (by omega) (by omega)]; rfl) <| TL.load hF rfl (lds i hil) rfl TL.fin) ?_
    refine DR.stepV [_,_,_,_,_,_,_,_,_,_,_,_,_,_,_,_,_,_,_,_,_,_,_,_] rfl [(8,_,none),(94,_,some 17)] rfl rfl ⟨⟨rfl,by kernel_rfl⟩,⟨rfl,rfl,rfl⟩,trivial⟩ (fun ext=>TL.on rfl rfl rfl (by rw [rem_mul _ (by omega) (by omega)]; rfl) <| TL.move hF rfl rfl TL.fin) ?_
    refine DR.stepV [_,_,_,_,_,_,_,_,_,_,_,_,_,_,_,_,_,_,_,_,_,_,_,_,_] rfl [(11,_,none),(94,_,some 17)] rfl rfl ⟨⟨rfl,by kernel_rfl⟩,⟨rfl,rfl,rfl⟩,trivial⟩ (fun ext=>TL.on rfl rfl rfl (by rw [rem_mul _ (by omega) (by omega)]; rfl) <| TL.move hF rfl rfl TL.fin) ?_
    refine DR.stepV [_,_,_,_,_,_,_,_,_,_,_,_,_,_,_,_,_,_,_,_,_,_,_,_,_,_] rfl [(100,_,some 23),(101,_,some 24),(94,_,some 17)] rfl rfl ⟨⟨rfl,rfl,rfl⟩,⟨rfl,rfl,rfl⟩,⟨rfl,rfl,rfl⟩,trivial⟩ (fun ext=>TL.on rfl rfl rfl (by rw [rem_mul _ (by omega) (by omega)]; rfl) <| TL.indexAddr hF rfl rfl (h8.tad pC_len (by decide) (i:=i) hil) (by omega) (by omega) rfl TL.fin) ?_
    refine DR.stepV [_,_,_,_,_,_,_,_,_,_,_,_,_,_,_,_,_,_,_,_,_,_,_,_,_,_,_] rfl [(102,_,some 25),(94,_,some 17)] rfl rfl ⟨⟨rfl,rfl,rfl⟩,⟨rfl,rfl,rfl⟩,trivial⟩ (fun ext=>TL.on rfl rfl rfl (by rw [rem_mul _ (by omega) (by omega)]; rfl) <| TL.indexAddrA hF rfl rfl (by omega) (by omega) rfl TL.fin) ?_
    refine DR.stepV [_,_,_,_,_,_,_,_,_,_,_,_,_,_,_,_,_,_,_,_,_,_,_,_,_,_,_,_] rfl [(103,_,some 26),(94,_,some 17)] rfl rfl ⟨⟨rfl,rfl,rfl⟩,⟨rfl,rfl,rfl⟩,trivial⟩ (fun ext=>TL.on rfl rfl rfl (by rw [rem_mul _ (by omega) (by omega)]; rfl) <| TL.load hF rfl (ldf i hil) rfl TL.fin) ?_
    refine DR.stepV [_,_,_,_,_,_,_,_,_,_,_,_,_,_,_,_,_,_,_,_,_,_,_,_,_,_,_,_,_] rfl [(7,_,none),(94,_,some 17)] rfl rfl ⟨⟨rfl,by kernel_rfl⟩,⟨rfl,rfl,rfl⟩,trivial⟩ (fun ext=>TL.on rfl rfl rfl (by rw [rem_mul _ (by omega) (by omega)]; rfl) <| TL.fieldAddr hF rfl rfl TL.fin) ?_
    refine DR.stepV [_,_,_,_,_,_,_,_,_,_,_,_,_,_,_,_,_,_,_,_,_,_,_,_,_,_,_,_,_,_] rfl [(105,_,some 28),(94,_,some 17)] rfl rfl ⟨⟨rfl,rfl,rfl⟩,⟨rfl,rfl,rfl⟩,trivial⟩ (fun ext=>TL.on rfl rfl rfl (by rw [rem_mul _ (by omega) (by omega)]; rfl) <| TL.load hF rfl (show At _ _ _ _ (.int .i64 sz) from own_mem (b:=b7) (cs:=(wsC ⟨0,sz,st,0,0⟩).toArray) (e:=23) (fz:=(0,0)) (by simp) rfl) rfl TL.fin) ?_
    refine DR.stepV [_,_,_,_,_,_,_,_,_,_,_,_,_,_,_,_,_,_,_,_,_,_,_,_,_,_,_,_,_,_,_] rfl [(104,_,some 27),(106,_,some 29),(94,_,some 17)] rfl rfl ⟨⟨rfl,rfl,rfl⟩,⟨rfl,rfl,rfl⟩,⟨rfl,rfl,rfl⟩,trivial⟩ (fun ext=>TL.on rfl rfl rfl (by rw [rem_mul _ (by omega) (by omega)]; rfl) <| TL.add hF rfl rfl (by omega) (by omega) rfl TL.fin) ?_
    refine DR.stepV [_,_,_,_,_,_,_,_,_,_,_,_,_,_,_,_,_,_,_,_,_,_,_,_,_,_,_,_,_,_,_,_] rfl [(99,_,some 22),(107,_,some 30),(94,_,some 17)] rfl rfl ⟨⟨rfl,rfl,rfl⟩,⟨rfl,rfl,rfl⟩,⟨rfl,rfl,rfl⟩,trivial⟩ (fun ext=>TL.on rfl rfl rfl (by rw [rem_mul _ (by omega) (by omega)]; rfl) <| TL.bin hF rfl rfl rfl rfl TL.fin) ?_
    refine DR.stepV [_,_,_,_,_,_,_,_,_,_,_,_,_,_,_,_,_,_,_,_,_,_,_,_,_,_,_,_,_,_,_,_,_] rfl [(94,_,some 17),(108,_,some 31)] rfl rfl ⟨⟨rfl,rfl,rfl⟩,⟨rfl,rfl,rfl⟩,trivial⟩ (fun ext=>TL.pickF hF rfl (by rw [rem_mul _ (by omega) (by omega)]; rfl) rfl rfl TL.fin) ?_
    refine DR.stepV [_,_,_,_,_,_,_,_,_,_,_,_,_,_,_,_,_,_,_,_,_,_,_,_,_,_,_,_,_,_,_,_,_,_] rfl [(109,_,some 32)] rfl rfl ⟨⟨rfl,rfl,rfl⟩,trivial⟩ (fun ext=>TL.move hF rfl rfl TL.fin) ?_
    refine DR.stepV [_,_,_,_,_,_,_,_,_,_,_,_,_,_,_,_,_,_,_,_,_,_,_,_,_,_,_,_,_,_,_,_,_,_,_] rfl [(2,_,none),(110,_,some 33)] rfl rfl ⟨⟨rfl,by kernel_rfl⟩,⟨rfl,rfl,rfl⟩,trivial⟩ (fun ext=>TL.on rfl rfl rfl (by simp) <| TL.move hF rfl rfl TL.fin) ?_
    refine DR.stepV [_,_,_,_,_,_,_,_,_,_,_,_,_,_,_,_,_,_,_,_,_,_,_,_,_,_,_,_,_,_,_,_,_,_,_,_] rfl [(8,_,none),(110,_,some 33)] rfl rfl ⟨⟨rfl,by kernel_rfl⟩,⟨rfl,rfl,rfl⟩,trivial⟩ (fun ext=>TL.on rfl rfl rfl (by simp) <| TL.move hF rfl rfl TL.fin) ?_
    refine DR.stepV [_,_,_,_,_,_,_,_,_,_,_,_,_,_,_,_,_,_,_,_,_,_,_,_,_,_,_,_,_,_,_,_,_,_,_,_,_] rfl [(11,_,none),(110,_,some 33)] rfl rfl ⟨⟨rfl,by kernel_rfl⟩,⟨rfl,rfl,rfl⟩,trivial⟩ (fun ext=>TL.on rfl rfl rfl (by simp) <| TL.move hF rfl rfl TL.fin) ?_
    refine DR.stepV [_,_,_,_,_,_,_,_,_,_,_,_,_,_,_,_,_,_,_,_,_,_,_,_,_,_,_,_,_,_,_,_,_,_,_,_,_,_] rfl [(112,_,some 35),(113,_,some 36),(110,_,some 33)] rfl rfl ⟨⟨rfl,rfl,rfl⟩,⟨rfl,rfl,rfl⟩,⟨rfl,rfl,rfl⟩,trivial⟩ (fun ext=>TL.on rfl rfl rfl (by simp) <| TL.indexAddr hF rfl rfl (h8.tad pC_len (by decide) (i:=i) hil) (by omega) (by omega) rfl TL.fin) ?_
    refine DR.stepV [_,_,_,_,_,_,_,_,_,_,_,_,_,_,_,_,_,_,_,_,_,_,_,_,_,_,_,_,_,_,_,_,_,_,_,_,_,_,_] rfl [(114,_,some 37),(110,_,some 33)] rfl rfl ⟨⟨rfl,rfl,rfl⟩,⟨rfl,rfl,rfl⟩,trivial⟩ (fun ext=>TL.on rfl rfl rfl (by simp) <| TL.indexAddrA hF rfl rfl (by omega) (by omega) rfl TL.fin) ?_
    refine DR.stepV [_,_,_,_,_,_,_,_,_,_,_,_,_,_,_,_,_,_,_,_,_,_,_,_,_,_,_,_,_,_,_,_,_,_,_,_,_,_,_,_] rfl [(115,_,some 38),(110,_,some 33)] rfl rfl ⟨⟨rfl,rfl,rfl⟩,⟨rfl,rfl,rfl⟩,trivial⟩ (fun ext=>TL.on rfl rfl rfl (by simp) <| TL.load hF rfl (ldf i hil) rfl TL.fin) ?_
    refine DR.stepV [_,_,_,_,_,_,_,_,_,_,_,_,_,_,_,_,_,_,_,_,_,_,_,_,_,_,_,_,_,_,_,_,_,_,_,_,_,_,_,_,_] rfl [(8,_,none),(110,_,some 33)] rfl rfl ⟨⟨rfl,by kernel_rfl⟩,⟨rfl,rfl,rfl⟩,trivial⟩ (fun ext=>TL.on rfl rfl rfl (by simp) <| TL.move hF rfl rfl TL.fin) ?_
    refine DR.stepV [_,_,_,_,_,_,_,_,_,_,_,_,_,_,_,_,_,_,_,_,_,_,_,_,_,_,_,_,_,_,_,_,_,_,_,_,_,_,_,_,_,_] rfl [(11,_,none),(110,_,some 33)] rfl rfl ⟨⟨rfl,by kernel_rfl⟩,⟨rfl,rfl,rfl⟩,trivial⟩ (fun ext=>TL.on rfl rfl rfl (by simp) <| TL.move hF rfl rfl TL.fin) ?_
    refine DR.stepV [_,_,_,_,_,_,_,_,_,_,_,_,_,_,_,_,_,_,_,_,_,_,_,_,_,_,_,_,_,_,_,_,_,_,_,_,_,_,_,_,_,_,_] rfl [(117,_,some 40),(118,_,some 41),(110,_,some 33)] rfl rfl ⟨⟨rfl,rfl,rfl⟩,⟨rfl,rfl,rfl⟩,⟨rfl,rfl,rfl⟩,trivial⟩ (fun ext=>TL.on rfl rfl rfl (by simp) <| TL.indexAddr hF rfl rfl (h8.tad pC_len (by decide) (i:=i) hil) (by omega) (by omega) rfl TL.fin) ?_
    refine DR.stepV [_,_,_,_,_,_,_,_,_,_,_,_,_,_,_,_,_,_,_,_,_,_,_,_,_,_,_,_,_,_,_,_,_,_,_,_,_,_,_,_,_,_,_,_] rfl [(119,_,some 42),(110,_,some 33)] rfl rfl ⟨⟨rfl,rfl,rfl⟩,⟨rfl,rfl,rfl⟩,trivial⟩ (fun ext=>TL.on rfl rfl rfl (by simp) <| TL.indexAddrA hF rfl rfl (by omega) (by omega) rfl TL.fin) ?_
    refine DR.stepV [_,_,_,_,_,_,_,_,_,_,_,_,_,_,_,_,_,_,_,_,_,_,_,_,_,_,_,_,_,_,_,_,_,_,_,_,_,_,_,_,_,_,_,_,_] rfl [(120,_,some 43),(110,_,some 33)] rfl rfl ⟨⟨rfl,rfl,rfl⟩,⟨rfl,rfl,rfl⟩,trivial⟩ (fun ext=>TL.on rfl rfl rfl (by simp) <| TL.load hF rfl (lds i hil) rfl TL.fin) ?_
    refine DR.stepV [_,_,_,_,_,_,_,_,_,_,_,_,_,_,_,_,_,_,_,_,_,_,_,_,_,_,_,_,_,_,_,_,_,_,_,_,_,_,_,_,_,_,_,_,_,_] rfl [(121,_,some 44),(110,_,some 33)] rfl rfl ⟨⟨rfl,rfl,rfl⟩,⟨rfl,rfl,rfl⟩,trivial⟩ (fun ext=>TL.on rfl rfl rfl (by simp) <| TL.sub hF rfl rfl (by omega) (by omega) rfl TL.fin) ?_
    refine DR.stepV [_,_,_,_,_,_,_,_,_,_,_,_,_,_,_,_,_,_,_,_,_,_,_,_,_,_,_,_,_,_,_,_,_,_,_,_,_,_,_,_,_,_,_,_,_,_,_] rfl [(111,_,some 34),(116,_,some 39),(122,_,some 45),(110,_,some 33)] rfl rfl ⟨⟨rfl,rfl,rfl⟩,⟨rfl,rfl,rfl⟩,⟨rfl,rfl,rfl⟩,⟨rfl,rfl,rfl⟩,trivial⟩ (fun ext=>TL.on rfl rfl rfl (by simp) <| TL.callV hF (Lies_fn t ((firstS ⟨0,sz,st,0,0⟩ t+i)*st) ((firstS ⟨0,sz,st,0,0⟩ t+i)*st+sz - 1)) rfl rfl TL.fin) ?_
    refine DR.stepV [_,_,_,_,_,_,_,_,_,_,_,_,_,_,_,_,_,_,_,_,_,_,_,_,_,_,_,_,_,_,_,_,_,_,_,_,_,_,_,_,_,_,_,_,_,_,_,_] rfl [(123,_,some 46),(110,_,some 33)] rfl rfl ⟨⟨rfl,rfl,rfl⟩,⟨rfl,rfl,rfl⟩,trivial⟩ (fun ext=>TL.on rfl rfl rfl (by simp) <| TL.not hF rfl rfl TL.fin) ?_
    refine DR.stepV [_,_,_,_,_,_,_,_,_,_,_,_,_,_,_,_,_,_,_,_,_,_,_,_,_,_,_,_,_,_,_,_,_,_,_,_,_,_,_,_,_,_,_,_,_,_,_,_,_] rfl [(110,_,some 33),(124,_,some 47)] rfl rfl ⟨⟨rfl,rfl,rfl⟩,⟨rfl,rfl,rfl⟩,trivial⟩ (fun ext=>TL.pickF hF rfl (by simp) rfl rfl TL.fin) ?_
    refine DR.stepV [_,_,_,_,_,_,_,_,_,_,_,_,_,_,_,_,_,_,_,_,_,_,_,_,_,_,_,_,_,_,_,_,_,_,_,_,_,_,_,_,_,_,_,_,_,_,_,_,_,_] rfl [(125,_,some 48)] rfl rfl ⟨⟨rfl,rfl,rfl⟩,trivial⟩ (fun ext=>TL.move hF rfl rfl TL.fin) ?_
    refine DR.stepV [_,_,_,_,_,_,_,_,_,_,_,_,_,_,_,_,_,_,_,_,_,_,_,_,_,_,_,_,_,_,_,_,_,_,_,_,_,_,_,_,_,_,_,_,_,_,_,_,_,_,_] rfl [(11,_,none),(126,_,some 49)] rfl rfl ⟨⟨rfl,by kernel_rfl⟩,⟨rfl,rfl,rfl⟩,trivial⟩ (fun ext=>TL.on rfl rfl rfl (by simp; omega) <| TL.move hF rfl rfl TL.fin) ?_
    refine DR.stepV [_,_,_,_,_,_,_,_,_,_,_,_,_,_,_,_,_,_,_,_,_,_,_,_,_,_,_,_,_,_,_,_,_,_,_,_,_,_,_,_,_,_,_,_,_,_,_,_,_,_,_,_] rfl [(127,_,some 50),(126,_,some 49)] rfl rfl ⟨⟨rfl,rfl,rfl⟩,⟨rfl,rfl,rfl⟩,trivial⟩ (fun ext=>TL.on rfl rfl rfl (by simp; omega) <| TL.bin hF rfl rfl rfl rfl TL.fin) ?_
    refine DR.stepV [_,_,_,_,_,_,_,_,_,_,_,_,_,_,_,_,_,_,_,_,_,_,_,_,_,_,_,_,_,_,_,_,_,_,_,_,_,_,_,_,_,_,_,_,_,_,_,_,_,_,_,_,_] rfl [(128,_,some 51),(126,_,some 49)] rfl rfl ⟨⟨rfl,rfl,rfl⟩,⟨rfl,rfl,rfl⟩,trivial⟩ (fun ext=>TL.on rfl rfl rfl (by simp; omega) <| TL.move hF rfl rfl TL.fin) ?_
    refine DR.stepV [_,_,_,_,_,_,_,_,_,_,_,_,_,_,_,_,_,_,_,_,_,_,_,_,_,_,_,_,_,_,_,_,_,_,_,_,_,_,_,_,_,_,_,_,_,_,_,_,_,_,_,_,_,_] rfl [(8,_,none),(129,_,some 52)] rfl rfl ⟨⟨rfl,by kernel_rfl⟩,⟨rfl,rfl,rfl⟩,trivial⟩ (fun ext=>TL.off hF rfl rfl rfl (by simp; omega) rfl TL.fin) ?_
    refine DR.stepV [_,_,_,_,_,_,_,_,_,_,_,_,_,_,_,_,_,_,_,_,_,_,_,_,_,_,_,_,_,_,_,_,_,_,_,_,_,_,_,_,_,_,_,_,_,_,_,_,_,_,_,_,_,_,_] rfl [(11,_,none),(129,_,some 52)] rfl rfl ⟨⟨rfl,by kernel_rfl⟩,⟨rfl,rfl,rfl⟩,trivial⟩ (fun ext=>TL.off hF rfl rfl rfl (by simp; omega) rfl TL.fin) ?_
    refine DR.stepV [_,_,_,_,_,_,_,_,_,_,_,_,_,_,_,_,_,_,_,_,_,_,_,_,_,_,_,_,_,_,_,_,_,_,_,_,_,_,_,_,_,_,_,_,_,_,_,_,_,_,_,_,_,_,_,_] rfl [(130,_,some 53),(131,_,some 54),(129,_,some 52)] rfl rfl ⟨⟨rfl,rfl,rfl⟩,⟨rfl,rfl,rfl⟩,⟨rfl,rfl,rfl⟩,trivial⟩ (fun ext=>TL.off hF rfl rfl rfl (by simp; omega) rfl TL.fin) ?_
    refine DR.stepV [_,_,_,_,_,_,_,_,_,_,_,_,_,_,_,_,_,_,_,_,_,_,_,_,_,_,_,_,_,_,_,_,_,_,_,_,_,_,_,_,_,_,_,_,_,_,_,_,_,_,_,_,_,_,_,_,_] rfl [(132,_,some 55),(129,_,some 52)] rfl rfl ⟨⟨rfl,rfl,rfl⟩,⟨rfl,rfl,rfl⟩,trivial⟩ (fun ext=>TL.off hF rfl rfl rfl (by simp; omega) rfl TL.fin) ?_
    refine DR.stepV [_,_,_,_,_,_,_,_,_,_,_,_,_,_,_,_,_,_,_,_,_,_,_,_,_,_,_,_,_,_,_,_,_,_,_,_,_,_,_,_,_,_,_,_,_,_,_,_,_,_,_,_,_,_,_,_,_,_] rfl [(133,_,some 56),(129,_,some 52)] rfl rfl ⟨⟨rfl,rfl,rfl⟩,⟨rfl,rfl,rfl⟩,trivial⟩ (fun ext=>TL.off hF rfl rfl rfl (by simp; omega) rfl TL.fin) ?_
    refine DR.stepV [_,_,_,_,_,_,_,_,_,_,_,_,_,_,_,_,_,_,_,_,_,_,_,_,_,_,_,_,_,_,_,_,_,_,_,_,_,_,_,_,_,_,_,_,_,_,_,_,_,_,_,_,_,_,_,_,_,_,_] rfl [(8,_,none),(129,_,some 52)] rfl rfl ⟨⟨rfl,by kernel_rfl⟩,⟨rfl,rfl,rfl⟩,trivial⟩ (fun ext=>TL.off hF rfl rfl rfl (by simp; omega) rfl TL.fin) ?_
    refine DR.stepV [_,_,_,_,_,_,_,_,_,_,_,_,_,_,_,_,_,_,_,_,_,_,_,_,_,_,_,_,_,_,_,_,_,_,_,_,_,_,_,_,_,_,_,_,_,_,_,_,_,_,_,_,_,_,_,_,_,_,_,_] rfl [(11,_,none),(129,_,some 52)] rfl rfl ⟨⟨rfl,by kernel_rfl⟩,⟨rfl,rfl,rfl⟩,trivial⟩ (fun ext=>TL.off hF rfl rfl rfl (by simp; omega) rfl TL.fin) ?_
    refine DR.stepV [_,_,_,_,_,_,_,_,_,_,_,_,_,_,_,_,_,_,_,_,_,_,_,_,_,_,_,_,_,_,_,_,_,_,_,_,_,_,_,_,_,_,_,_,_,_,_,_,_,_,_,_,_,_,_,_,_,_,_,_,_] rfl [(136,_,some 59),(129,_,some 52)] rfl rfl ⟨⟨rfl,rfl,rfl⟩,⟨rfl,rfl,rfl⟩,trivial⟩ (fun ext=>TL.off hF rfl rfl rfl (by simp; omega) rfl TL.fin) ?_
    refine DR.stepV [_,_,_,_,_,_,_,_,_,_,_,_,_,_,_,_,_,_,_,_,_,_,_,_,_,_,_,_,_,_,_,_,_,_,_,_,_,_,_,_,_,_,_,_,_,_,_,_,_,_,_,_,_,_,_,_,_,_,_,_,_,_] rfl [(135,_,some 58),(137,_,some 60),(129,_,some 52)] rfl rfl ⟨⟨rfl,rfl,rfl⟩,⟨rfl,rfl,rfl⟩,⟨rfl,rfl,rfl⟩,trivial⟩ (fun ext=>TL.off hF rfl rfl rfl (by simp; omega) rfl TL.fin) ?_
    refine DR.stepV [_,_,_,_,_,_,_,_,_,_,_,_,_,_,_,_,_,_,_,_,_,_,_,_,_,_,_,_,_,_,_,_,_,_,_,_,_,_,_,_,_,_,_,_,_,_,_,_,_,_,_,_,_,_,_,_,_,_,_,_,_,_,_] rfl [(138,_,some 61),(129,_,some 52)] rfl rfl ⟨⟨rfl,rfl,rfl⟩,⟨rfl,rfl,rfl⟩,trivial⟩ (fun ext=>TL.off hF rfl rfl rfl (by simp; omega) rfl TL.fin) ?_
    refine DR.stepV [_,_,_,_,_,_,_,_,_,_,_,_,_,_,_,_,_,_,_,_,_,_,_,_,_,_,_,_,_,_,_,_,_,_,_,_,_,_,_,_,_,_,_,_,_,_,_,_,_,_,_,_,_,_,_,_,_,_,_,_,_,_,_,_] rfl [(139,_,some 62),(129,_,some 52)] rfl rfl ⟨⟨rfl,rfl,rfl⟩,⟨rfl,rfl,rfl⟩,trivial⟩ (fun ext=>TL.off hF rfl rfl rfl (by simp; omega) rfl TL.fin) ?_
    refine DR.stepV [_,_,_,_,_,_,_,_,_,_,_,_,_,_,_,_,_,_,_,_,_,_,_,_,_,_,_,_,_,_,_,_,_,_,_,_,_,_,_,_,_,_,_,_,_,_,_,_,_,_,_,_,_,_,_,_,_,_,_,_,_,_,_,_,_] rfl [(7,_,none),(129,_,some 52)] rfl rfl ⟨⟨rfl,by kernel_rfl⟩,⟨rfl,rfl,rfl⟩,trivial⟩ (fun ext=>TL.off hF rfl rfl rfl (by simp; omega) rfl TL.fin) ?_
    refine DR.stepV [_,_,_,_,_,_,_,_,_,_,_,_,_,_,_,_,_,_,_,_,_,_,_,_,_,_,_,_,_,_,_,_,_,_,_,_,_,_,_,_,_,_,_,_,_,_,_,_,_,_,_,_,_,_,_,_,_,_,_,_,_,_,_,_,_,_] rfl [(141,_,some 64),(129,_,some 52)] rfl rfl ⟨⟨rfl,rfl,rfl⟩,⟨rfl,rfl,rfl⟩,trivial⟩ (fun ext=>TL.off hF rfl rfl rfl (by simp; omega) rfl TL.fin) ?_
    refine DR.stepV [_,_,_,_,_,_,_,_,_,_,_,_,_,_,_,_,_,_,_,_,_,_,_,_,_,_,_,_,_,_,_,_,_,_,_,_,_,_,_,_,_,_,_,_,_,_,_,_,_,_,_,_,_,_,_,_,_,_,_,_,_,_,_,_,_,_,_] rfl [(140,_,some 63),(142,_,some 65),(129,_,some 52)] rfl rfl ⟨⟨rfl,rfl,rfl⟩,⟨rfl,rfl,rfl⟩,⟨rfl,rfl,rfl⟩,trivial⟩ (fun ext=>TL.off hF rfl rfl rfl (by simp; omega) rfl TL.fin) ?_
    refine DR.done [(143,_),(142,_),(141,_),(140,_),(139,_),(138,_),(137,_),(136,_),(135,_),(134,_),(133,_),(132,_),(131,_),(130,_),(129,_),(128,_),(127,_),(126,_),(125,_),(124,_),(123,_),(122,_),(121,_),(120,_),(119,_),(118,_),(117,_),(116,_),(115,_),(114,_),(113,_),(112,_),(111,_),(110,_),(109,_),(108,_),(107,_),(106,_),(105,_),(104,_),(103,_),(102,_),(101,_),(100,_),(99,_),(98,_),(97,_),(96,_),(95,_),(94,_),(93,_),(92,_),(91,_),(90,_),(89,_),(88,_),(87,_),(86,_),(85,_),(84,_),(83,_),(82,_),(81,_),(80,_),(79,_),(78,_),(77,_)] [_,_,_] mixed (by kernel_rfl) (by kernel_rfl) (by kernel_rfl) rfl rfl ?_
    refine TL.off hF rfl rfl rfl (by simp; omega) rfl ?_
    refine TL.on rfl rfl rfl (by simp; omega) ?_
    refine TL.pickF hF rfl (by simp; omega) rfl rfl ?_
    refine TL.pickF hF rfl (by simp; omega) rfl rfl ?_
    refine TL.nil ?_
    refine TQ.then_n ?_
    refine T.cond_f rfl rfl ?_
    refine T.skip ?_
    refine TQ.block_n ?_
    refine TQ.then_n ?_
    refine T.region ?_
    refine TL.move hF rfl rfl ?_
    refine TL.add hF rfl rfl (by omega) (by omega) rfl ?_
    refine TL.assign hF rfl rfl ?_
    refine TL.nil ?_
    exact TQ.round (i+1) (by omega) (by omega) ⟨rfl,rfl,rfl,rfl,rfl,trivial⟩ rfl
  ·refine T.exit ?_
   refine TQ.then_x ?_
   refine TQ.then_x ?_
   refine TQ.block_x ?_
   refine TQ.then_n ?_
   refine T.seq ?_
   refine T.region ?_
   refine TL.call hF (windowed_law hT) rfl rfl ?_
   rintro _ _ rfl
   refine TL.assign hF rfl rfl ?_
   refine TL.nil ?_
   refine TQ.then_n ?_
   refine T.ret ?_
   exact TQ.retsF [6] _ hb rfl rfl rfl (fun _=>rfl)
 ·refine T.skip ?_
  refine TQ.then_n ?_
  refine T.seq ?_
  refine T.seq ?_
  refine T.region ?_
  have hcv:t / st+1=(sp.length:Int):=by
   have:firstS ⟨0,sz,st,0,0⟩ t=0:=by unfold firstS; exact if_neg ht38
   omega
  rw [hcv]
  refine TL.move hF rfl rfl ?_
  refine TL.bin hF rfl rfl rfl rfl ?_
  refine TL.move hF rfl rfl ?_
  refine TL.on rfl rfl rfl (by decide) ?_
  refine TL.move hF rfl rfl ?_
  refine TL.on rfl rfl rfl (by decide) ?_
  refine TL.len hF rfl rfl ?_
  refine TL.on rfl rfl rfl (by decide) ?_
  refine TL.move hF rfl rfl ?_
  refine TL.on rfl rfl rfl (by decide) ?_
  refine TL.bin hF rfl rfl rfl rfl ?_
  refine TL.pickF hF rfl (by decide) rfl rfl ?_
  refine TL.move hF rfl rfl ?_
  refine TL.on rfl rfl rfl (by simp) ?_
  refine TL.move hF rfl rfl ?_
  refine TL.on rfl rfl rfl (by simp) ?_
  refine TL.len hF rfl rfl ?_
  refine TL.on rfl rfl rfl (by simp) ?_
  refine TL.fieldAddr hF rfl rfl ?_
  refine TL.on rfl rfl rfl (by simp) ?_
  refine TL.load hF rfl (show At _ _ _ _ (.int .i64 sz) from own_mem (b:=b7) (cs:=(wsC ⟨0,sz,st,0,0⟩).toArray) (e:=23) (fz:=(0,0)) (by simp) rfl) rfl ?_
  refine TL.on rfl rfl rfl (by simp) ?_
  refine TL.fieldAddr hF rfl rfl ?_
  refine TL.on rfl rfl rfl (by simp) ?_
  refine TL.load hF rfl (show At _ _ _ _ (.int .i64 st) from own_mem (b:=b7) (cs:=(wsC ⟨0,sz,st,0,0⟩).toArray) (e:=23) (fz:=(0,0)) (by simp) rfl) rfl ?_
  refine TL.on rfl rfl rfl (by simp) ?_
  refine TL.add hF rfl rfl (by omega) (by omega) rfl ?_
  refine TL.on rfl rfl rfl (by simp) ?_
  refine TL.sub hF rfl rfl (by omega) (by omega) rfl ?_
  refine TL.on rfl rfl rfl (by simp) ?_
  refine TL.fieldAddr hF rfl rfl ?_
  refine TL.on rfl rfl rfl (by simp) ?_
  refine TL.load hF rfl (show At _ _ _ _ (.int .i64 st) from own_mem (b:=b7) (cs:=(wsC ⟨0,sz,st,0,0⟩).toArray) (e:=23) (fz:=(0,0)) (by simp) rfl) rfl ?_
  refine TL.on rfl rfl rfl (by simp) ?_
  have hq4:=Int.ediv_nonneg (show 0≤sz+st - 1 by omega) (show 0≤st by omega)
  have hq5:=Int.ediv_le_self st (show 0≤sz+st - 1 by omega)
  refine TL.quoI hF rfl rfl (by omega) (r:=(sz+st - 1) / st) (by rw [Int.tdiv_eq_ediv_of_nonneg (by omega)]; exact wrap_i64 (by omega) (by omega)) rfl ?_
  refine TL.on rfl rfl rfl (by simp) ?_
  refine TL.bin hF rfl rfl rfl rfl ?_
  refine TL.pickF hF rfl (by simp) rfl rfl ?_
  refine TL.nil ?_
  refine TQ.then_n ?_
  refine T.cond_f rfl (by rw [decide_eq_false_iff_not]; omega) ?_
  refine T.skip ?_
  refine TQ.then_n ?_
  refine T.seq ?_
  refine T.seq ?_
  refine T.region ?_
  refine TL.assign hF rfl rfl ?_
  refine TL.nil ?_
  refine TQ.then_n ?_
  refine T.block ?_
  refine T.loop (ι:=Nat) (fun i=>i≤sp.length) (fun i=>[(2,.int .i64 t),(6,.bool false),(7,ptr b7),(8,.slice wa sp.length wc),(11,.int .i64 (i:Int))]) (fun _=>[(b7,Obj.cells (wsC ⟨0,sz,st,0,0⟩).toArray 23 (0,0))]::η) (fun i=>sp.length - i) 0 (Nat.zero_le _) ⟨rfl,rfl,rfl,rfl,rfl,trivial⟩ rfl ?_
  rintro i hi
  refine T.seq ?_
  refine T.seq ?_
  refine T.region ?_
  refine TL.move hF rfl rfl ?_
  refine TL.move hF rfl rfl ?_
  refine TL.len hF rfl rfl ?_
  refine TL.bin hF rfl rfl rfl rfl ?_
  refine TL.nil ?_
  refine TQ.then_n ?_
  first | refine T.cond_d rfl (fun ht74=>?_) (fun ht74=>?_) | refine T.cond _ rfl (fun ht74=>?_) (fun ht74=>?_)
  ·refine T.skip ?_
   refine TQ.then_n ?_
   refine T.seq ?_
   refine T.block ?_
   refine T.seq ?_
   by_cases hi0:0<i
   ·have hil:i<sp.length:=by have h:(i:Int)<(sp.length:Int):=ht74; omega
    have hat:∀ j:Nat,(hj:j<sp.length)→sp[j]=((firstS ⟨0,sz,st,0,0⟩ t+j)*st,(firstS ⟨0,sz,st,0,0⟩ t+j)*st+sz):=fun j hj=>by
     have h1:=spans_at (s:=⟨0,sz,st,0,0⟩) (t:=t) (i:=j) (by omega)
     rw [← hsp,List.getElem?_eq_getElem hj] at h1
     exact Option.some.inj h1
    have ldf:∀ (j:Nat) (hj:j<sp.length),At S1 w1 ([(b7,Obj.cells (wsC ⟨0,sz,st,0,0⟩).toArray 23 (0,0))]::η) ⟨(sAt wa (j*2)).block,(sAt wa (j*2)).off+0,none⟩ (.int .i64 ((firstS ⟨0,sz,st,0,0⟩ t+j)*st)):=fun j hj=>by
     have h1:=(h8.up (η':=[(b7,Obj.cells (wsC ⟨0,sz,st,0,0⟩).toArray 23 (0,0))]::η) (by simp)).tabA pC_len hj 0 (.int .i64 sp[j].1) rfl
     rw [hat j hj] at h1; exact h1
    have lds:∀ (j:Nat) (hj:j<sp.length),At S1 w1 ([(b7,Obj.cells (wsC ⟨0,sz,st,0,0⟩).toArray 23 (0,0))]::η) ⟨(sAt wa (j*2)).block,(sAt wa (j*2)).off+1,none⟩ (.int .i64 ((firstS ⟨0,sz,st,0,0⟩ t+j)*st+sz)):=fun j hj=>by
     have h1:=(h8.up (η':=[(b7,Obj.cells (wsC ⟨0,sz,st,0,0⟩).toArray 23 (0,0))]::η) (by simp)).tabA pC_len hj 1 (.int .i64 sp[j].2) rfl
     rw [hat j hj] at h1; exact h1
    have hmem:sp[i]∈spansS ⟨0,sz,st,0,0⟩ t:=by rw [← hsp]; exact List.getElem_mem hil
    have hin:=(mem_spans htok.sp).1 hmem
    rw [hat i hil] at hin
    obtain ⟨_,hi1,hi2⟩:=hin
    dsimp only at hi1 hi2
    have hstep:0<i→(firstS ⟨0,sz,st,0,0⟩ t+i)*st=(firstS ⟨0,sz,st,0,0⟩ t+((i - 1:Nat):Int))*st+st:=fun h=>by rw [show (i:Int)=((i - 1:Nat):Int)+1 by omega,← Int.add_assoc,Int.add_mul,Int.one_mul]
    have hnn:0≤(firstS ⟨0,sz,st,0,0⟩ t+i)*st:=Int.mul_nonneg (by omega) (by omega)
    refine T.draw ?_
    refine DR.stepV [_] rfl [(8,_,none)] rfl rfl ⟨⟨rfl,by kernel_rfl⟩,trivial⟩ (fun ext=>TL.move hF rfl rfl TL.fin) ?_
    refine DR.stepV [_,_] rfl [(11,_,none)] rfl rfl ⟨⟨rfl,by kernel_rfl⟩,trivial⟩ (fun ext=>TL.move hF rfl rfl TL.fin) ?_
    refine DR.stepV [_,_,_] rfl [(77,_,some 0),(78,_,some 1)] rfl rfl ⟨⟨rfl,rfl,rfl⟩,⟨rfl,rfl,rfl⟩,trivial⟩ (fun ext=>TL.indexAddr hF rfl rfl (h8.tad pC_len (by decide) (i:=i) hil) (by omega) (by omega) rfl TL.fin) ?_
    refine DR.stepV [_,_,_,_] rfl [(79,_,some 2)] rfl rfl ⟨⟨rfl,rfl,rfl⟩,trivial⟩ (fun ext=>TL.indexAddrA hF rfl rfl (by omega) (by omega) rfl TL.fin) ?_
    refine DR.stepV [_,_,_,_,_] rfl [(80,_,some 3)] rfl rfl ⟨⟨rfl,rfl,rfl⟩,trivial⟩ (fun ext=>TL.load hF rfl (ldf i hil) rfl TL.fin) ?_
    refine DR.stepV [_,_,_,_,_,_] rfl [(81,_,some 4)] rfl rfl ⟨⟨rfl,rfl,rfl⟩,trivial⟩ (fun ext=>TL.bin hF rfl rfl rfl rfl TL.fin) ?_
    refine DR.stepV [_,_,_,_,_,_,_] rfl [(82,_,some 5)] rfl rfl ⟨⟨rfl,rfl,rfl⟩,trivial⟩ (fun ext=>TL.move hF rfl rfl TL.fin) ?_
    refine DR.stepV [_,_,_,_,_,_,_,_] rfl [(8,_,none),(83,_,some 6)] rfl rfl ⟨⟨rfl,by kernel_rfl⟩,⟨rfl,rfl,rfl⟩,trivial⟩ (fun ext=>TL.on rfl rfl rfl (by rw [decide_eq_false_iff_not]; omega) <| TL.move hF rfl rfl TL.fin) ?_
    refine DR.stepV [_,_,_,_,_,_,_,_,_] rfl [(11,_,none),(83,_,some 6)] rfl rfl ⟨⟨rfl,by kernel_rfl⟩,⟨rfl,rfl,rfl⟩,trivial⟩ (fun ext=>TL.on rfl rfl rfl (by rw [decide_eq_false_iff_not]; omega) <| TL.move hF rfl rfl TL.fin) ?_
    refine DR.stepV [_,_,_,_,_,_,_,_,_,_] rfl [(84,_,some 7),(85,_,some 8),(83,_,some 6)] rfl rfl ⟨⟨rfl,rfl,rfl⟩,⟨rfl,rfl,rfl⟩,⟨rfl,rfl,rfl⟩,trivial⟩ (fun ext=>TL.on rfl rfl rfl (by rw [decide_eq_false_iff_not]; omega) <| TL.indexAddr hF rfl rfl (h8.tad pC_len (by decide) (i:=i) hil) (by omega) (by omega) rfl TL.fin) ?_
    refine DR.stepV [_,_,_,_,_,_,_,_,_,_,_] rfl [(86,_,some 9),(83,_,some 6)] rfl rfl ⟨⟨rfl,rfl,rfl⟩,⟨rfl,rfl,rfl⟩,trivial⟩ (fun ext=>TL.on rfl rfl rfl (by rw [decide_eq_false_iff_not]; omega) <| TL.indexAddrA hF rfl rfl (by omega) (by omega) rfl TL.fin) ?_
    refine DR.stepV [_,_,_,_,_,_,_,_,_,_,_,_] rfl [(87,_,some 10),(83,_,some 6)] rfl rfl ⟨⟨rfl,rfl,rfl⟩,⟨rfl,rfl,rfl⟩,trivial⟩ (fun ext=>TL.on rfl rfl rfl (by rw [decide_eq_false_iff_not]; omega) <| TL.load hF rfl (ldf i hil) rfl TL.fin) ?_
    refine DR.stepV [_,_,_,_,_,_,_,_,_,_,_,_,_] rfl [(7,_,none),(83,_,some 6)] rfl rfl ⟨⟨rfl,by kernel_rfl⟩,⟨rfl,rfl,rfl⟩,trivial⟩ (fun ext=>TL.on rfl rfl rfl (by rw [decide_eq_false_iff_not]; omega) <| TL.fieldAddr hF rfl rfl TL.fin) ?_
    refine DR.stepV [_,_,_,_,_,_,_,_,_,_,_,_,_,_] rfl [(89,_,some 12),(83,_,some 6)] rfl rfl ⟨⟨rfl,rfl,rfl⟩,⟨rfl,rfl,rfl⟩,trivial⟩ (fun ext=>TL.on rfl rfl rfl (by rw [decide_eq_false_iff_not]; omega) <| TL.load hF rfl (show At _ _ _ _ (.int .i64 st) from own_mem (b:=b7) (cs:=(wsC ⟨0,sz,st,0,0⟩).toArray) (e:=23) (fz:=(0,0)) (by simp) rfl) rfl TL.fin) ?_
    refine DR.stepV [_,_,_,_,_,_,_,_,_,_,_,_,_,_,_] rfl [(88,_,some 11),(90,_,some 13),(83,_,some 6)] rfl rfl ⟨⟨rfl,rfl,rfl⟩,⟨rfl,rfl,rfl⟩,⟨rfl,rfl,rfl⟩,trivial⟩ (fun ext=>TL.on rfl rfl rfl (by rw [decide_eq_false_iff_not]; omega) <| TL.remI hF rfl rfl (by omega) rfl TL.fin) ?_
    refine DR.stepV [_,_,_,_,_,_,_,_,_,_,_,_,_,_,_,_] rfl [(91,_,some 14),(83,_,some 6)] rfl rfl ⟨⟨rfl,rfl,rfl⟩,⟨rfl,rfl,rfl⟩,trivial⟩ (fun ext=>TL.on rfl rfl rfl (by rw [decide_eq_false_iff_not]; omega) <| TL.bin hF rfl rfl rfl rfl TL.fin) ?_
    refine DR.stepV [_,_,_,_,_,_,_,_,_,_,_,_,_,_,_,_,_] rfl [(83,_,some 6),(92,_,some 15)] rfl rfl ⟨⟨rfl,rfl,rfl⟩,⟨rfl,rfl,rfl⟩,trivial⟩ (fun ext=>TL.pickF hF rfl (by rw [decide_eq_false_iff_not]; omega) rfl rfl TL.fin) ?_
    refine DR.stepV [_,_,_,_,_,_,_,_,_,_,_,_,_,_,_,_,_,_] rfl [(93,_,some 16)] rfl rfl ⟨⟨rfl,rfl,rfl⟩,trivial⟩ (fun ext=>TL.move hF rfl rfl TL.fin) ?_
    refine DR.stepV [_,_,_,_,_,_,_,_,_,_,_,_,_,_,_,_,_,_,_] rfl [(8,_,none),(94,_,some 17)] rfl rfl ⟨⟨rfl,by kernel_rfl⟩,⟨rfl,rfl,rfl⟩,trivial⟩ (fun ext=>TL.on rfl rfl rfl (by rw [rem_mul _ (by omega) (by omega)]; rfl) <| TL.move hF rfl rfl TL.fin) ?_
    refine DR.stepV [_,_,_,_,_,_,_,_,_,_,_,_,_,_,_,_,_,_,_,_] rfl [(11,_,none),(94,_,some 17)] rfl rfl ⟨⟨rfl,by kernel_rfl⟩,⟨rfl,rfl,rfl⟩,trivial⟩ (fun ext=>TL.on rfl rfl rfl (by rw [rem_mul _ (by omega) (by omega)]; rfl) <| TL.move hF rfl rfl TL.fin) ?_
    refine DR.stepV [_,_,_,_,_,_,_,_,_,_,_,_,_,_,_,_,_,_,_,_,_] rfl [(95,_,some 18),(96,_,some 19),(94,_,some 17)] rfl rfl ⟨⟨rfl,rfl,rfl⟩,⟨rfl,rfl,rfl⟩,⟨rfl,rfl,rfl⟩,trivial⟩ (fun ext=>TL.on rfl rfl rfl (by rw [rem_mul _ (by omega) (by omega)]; rfl) <| TL.indexAddr hF rfl rfl (h8.tad pC_len (by decide) (i:=i) hil) (by omega) (by omega) rfl TL.fin) ?_
    refine DR.stepV [_,_,_,_,_,_,_,_,_,_,_,_,_,_,_,_,_,_,_,_,_,_] rfl [(97,_,some 20),(94,_,some 17)] rfl rfl ⟨⟨rfl,rfl,rfl⟩,⟨rfl,rfl,rfl⟩,trivial⟩ (fun ext=>TL.on rfl rfl rfl (by rw [rem_mul _ (by omega) (by omega)]; rfl) <| TL.indexAddrA hF rfl rfl (by omega) (by omega) rfl TL.fin) ?_
    refine DR.stepV [_,_,_,_,_,_,_,_,_,_,_,_,_,_,_,_,_,_,_,_,_,_,_] rfl [(98,_,some 21),(94,_,some 17)] rfl rfl ⟨⟨rfl,rfl,rfl⟩,⟨rfl,rfl,rfl⟩,trivial⟩ (fun ext=>TL.on rfl rfl rfl (by rw [rem_mul _ (by omega) (by omega)]; rfl) <| TL.load hF rfl (lds i hil) rfl TL.fin) ?_
    refine DR.stepV [_,_,_,_,_,_,_,_,_,_,_,_,_,_,_,_,_,_,_,_,_,_,_,_] rfl [(8,_,none),(94,_,some 17)] rfl rfl ⟨⟨rfl,by kernel_rfl⟩,⟨rfl,rfl,rfl⟩,trivial⟩ (fun ext=>TL.on rfl rfl rfl (by rw [rem_mul _ (by omega) (by omega)]; rfl) <| TL.move hF rfl rfl TL.fin) ?_
    refine DR.stepV [_,_,_,_,_,_,_,_,_,_,_,_,_,_,_,_,_,_,_,_,_,_,_,_,_] rfl [(11,_,none),(94,_,some 17)] rfl rfl ⟨⟨rfl,by kernel_rfl⟩,⟨rfl,rfl,rfl⟩,trivial⟩ (fun ext=>TL.on rfl rfl rfl (by rw [rem_mul _ (by omega) (by omega)]; rfl) <| TL.move hF rfl rfl TL.fin) ?_
    refine DR.stepV [_,_,_,_,_,_,_,_,_,_,_,_,_,_,_,_,_,_,_,_,_,_,_,_,_,_] rfl [(100,_,some 23),(101,_,some 24),(94,_,some 17)] rfl rfl ⟨⟨rfl,rfl,rfl⟩,⟨rfl,rfl,rfl⟩,⟨rfl,rfl,rfl⟩,trivial⟩ (fun ext=>TL.on rfl rfl rfl (by rw [rem_mul _ (by omega) (by omega)]; rfl) <| TL.indexAddr hF rfl rfl (h8.tad pC_len (by decide) (i:=i) hil) (by omega) (by omega) rfl TL.fin) ?_
    refine DR.stepV [_,_,_,_,_,_,_,_,_,_,_,_,_,_,_,_,_,_,_,_,_,_,_,_,_,_,_] rfl [(102,_,some 25),(94,_,some 17)] rfl rfl ⟨⟨rfl,rfl,rfl⟩,⟨rfl,rfl,rfl⟩,trivial⟩ (fun ext=>TL.on rfl rfl rfl (by rw [rem_mul _ (by omega) (by omega)]; rfl) <| TL.indexAddrA hF rfl rfl (by omega) (by omega) rfl TL.fin) ?_
    refine DR.stepV [_,_,_,_,_,_,_,_,_,_,_,_,_,_,_,_,_,_,_,_,_,_,_,_,_,_,_,_] rfl [(103,_,some 26),(94,_,some 17)] rfl rfl ⟨⟨rfl,rfl,rfl⟩,⟨rfl,rfl,rfl⟩,trivial⟩ (fun ext=>TL.on rfl rfl rfl (by rw [rem_mul _ (by omega) (by omega)]; rfl) <| TL.load hF rfl (ldf i hil) rfl TL.fin) ?_
    refine DR.stepV [_,_,_,_,_,_,_,_,_,_,_,_,_,_,_,_,_,_,_,_,_,_,_,_,_,_,_,_,_] rfl [(7,_,none),(94,_,some 17)] rfl rfl ⟨⟨rfl,by kernel_rfl⟩,⟨rfl,rfl,rfl⟩,trivial⟩ (fun ext=>TL.on rfl rfl rfl (by rw [rem_mul _ (by omega) (by omega)]; rfl) <| TL.fieldAddr hF rfl rfl TL.fin) ?_
    refine DR.stepV [_,_,_,_,_,_,_,_,_,_,_,_,_,_,_,_,_,_,_,_,_,_,_,_,_,_,_,_,_,_] rfl [(105,_,some 28),(94,_,some 17)] rfl rfl ⟨⟨rfl,rfl,rfl⟩,⟨rfl,rfl,rfl⟩,trivial⟩ (fun ext=>TL.on rfl rfl rfl (by rw [rem_mul _ (by omega) (by omega)]; rfl) <| TL.load hF rfl (show At _ _ _ _ (.int .i64 sz) from own_mem (b:=b7) (cs:=(wsC ⟨0,sz,st,0,0⟩).toArray) (e:=23) (fz:=(0,0)) (by simp) rfl) rfl TL.fin) ?_
    refine DR.stepV [_,_,_,_,_,_,_,_,_,_,_,_,_,_,_,_,_,_,_,_,_,_,_,_,_,_,_,_,_,_,_] rfl [(104,_,some 27),(106,_,some 29),(94,_,some 17)] rfl rfl ⟨⟨rfl,rfl,rfl⟩,⟨rfl,rfl,rfl⟩,⟨rfl,rfl,rfl⟩,trivial⟩ (fun ext=>TL.on rfl rfl rfl (by rw [rem_mul _ (by omega) (by omega)]; rfl) <| TL.add hF rfl rfl (by omega) (by omega) rfl TL.fin) ?_
    refine DR.stepV [_,_,_,_,_,_,_,_,_,_,_,_,_,_,_,_,_,_,_,_,_,_,_,_,_,_,_,_,_,_,_,_] rfl [(99,_,some 22),(107,_,some 30),(94,_,some 17)] rfl rfl ⟨⟨rfl,rfl,rfl⟩,⟨rfl,rfl,rfl⟩,⟨rfl,rfl,rfl⟩,trivial⟩ (fun ext=>TL.on rfl rfl rfl (by rw [rem_mul _ (by omega) (by omega)]; rfl) <| TL.bin hF rfl rfl rfl rfl TL.fin) ?_
    refine DR.stepV [_,_,_,_,_,_,_,_,_,_,_,_,_,_,_,_,_,_,_,_,_,_,_,_,_,_,_,_,_,_,_,_,_] rfl [(94,_,some 17),(108,_,some 31)] rfl rfl ⟨⟨rfl,rfl,rfl⟩,⟨rfl,rfl,rfl⟩,trivial⟩ (fun ext=>TL.pickF hF rfl (by rw [rem_mul _ (by omega) (by omega)]; rfl) rfl rfl TL.fin) ?_
    refine DR.stepV [_,_,_,_,_,_,_,_,_,_,_,_,_,_,_,_,_,_,_,_,_,_,_,_,_,_,_,_,_,_,_,_,_,_] rfl [(109,_,some 32)] rfl rfl ⟨⟨rfl,rfl,rfl⟩,trivial⟩ (fun ext=>TL.move hF rfl rfl TL.fin) ?_
    refine DR.stepV [_,_,_,_,_,_,_,_,_,_,_,_,_,_,_,_,_,_,_,_,_,_,_,_,_,_,_,_,_,_,_,_,_,_,_] rfl [(2,_,none),(110,_,some 33)] rfl rfl ⟨⟨rfl,by kernel_rfl⟩,⟨rfl,rfl,rfl⟩,trivial⟩ (fun ext=>TL.on rfl rfl rfl (by simp) <| TL.move hF rfl rfl TL.fin) ?_
    refine DR.stepV [_,_,_,_,_,_,_,_,_,_,_,_,_,_,_,_,_,_,_,_,_,_,_,_,_,_,_,_,_,_,_,_,_,_,_,_] rfl [(8,_,none),(110,_,some 33)] rfl rfl ⟨⟨rfl,by kernel_rfl⟩,⟨rfl,rfl,rfl⟩,trivial⟩ (fun ext=>TL.on rfl rfl rfl (by simp) <| TL.move hF rfl rfl TL.fin) ?_
    refine DR.stepV [_,_,_,_,_,_,_,_,_,_,_,_,_,_,_,_,_,_,_,_,_,_,_,_,_,_,_,_,_,_,_,_,_,_,_,_,_] rfl [(11,_,none),(110,_,some 33)] rfl rfl ⟨⟨rfl,by kernel_rfl⟩,⟨rfl,rfl,rfl⟩,trivial⟩ (fun ext=>TL.on rfl rfl rfl (by simp) <| TL.move hF rfl rfl TL.fin) ?_
    refine DR.stepV [_,_,_,_,_,_,_,_,_,_,_,_,_,_,_,_,_,_,_,_,_,_,_,_,_,_,_,_,_,_,_,_,_,_,_,_,_,_] rfl [(112,_,some 35),(113,_,some 36),(110,_,some 33)] rfl rfl ⟨⟨rfl,rfl,rfl⟩,⟨rfl,rfl,rfl⟩,⟨rfl,rfl,rfl⟩,trivial⟩ (fun ext=>TL.on rfl rfl rfl (by simp) <| TL.indexAddr hF rfl rfl (h8.tad pC_len (by decide) (i:=i) hil) (by omega) (by omega) rfl TL.fin) ?_
    refine DR.stepV [_,_,_,_,_,_,_,_,_,_,_,_,_,_,_,_,_,_,_,_,_,_,_,_,_,_,_,_,_,_,_,_,_,_,_,_,_,_,_] rfl [(114,_,some 37),(110,_,some 33)] rfl rfl ⟨⟨rfl,rfl,rfl⟩,⟨rfl,rfl,rfl⟩,trivial⟩ (fun ext=>TL.on rfl rfl rfl (by simp) <| TL.indexAddrA hF rfl rfl (by omega) (by omega) rfl TL.fin) ?_
    refine DR.stepV [_,_,_,_,_,_,_,_,_,_,_,_,_,_,_,_,_,_,_,_,_,_,_,_,_,_,_,_,_,_,_,_,_,_,_,_,_,_,_,_] rfl [(115,_,some 38),(110,_,some 33)] rfl rfl ⟨⟨rfl,rfl,rfl⟩,⟨rfl,rfl,rfl⟩,trivial⟩ (fun ext=>TL.on rfl rfl rfl (by simp) <| TL.load hF rfl (ldf i hil) rfl TL.fin) ?_
    refine DR.stepV [_,_,_,_,_,_,_,_,_,_,_,_,_,_,_,_,_,_,_,_,_,_,_,_,_,_,_,_,_,_,_,_,_,_,_,_,_,_,_,_,_] rfl [(8,_,none),(110,_,some 33)] rfl rfl ⟨⟨rfl,by kernel_rfl⟩,⟨rfl,rfl,rfl⟩,trivial⟩ (fun ext=>TL.on rfl rfl rfl (by simp) <| TL.move hF rfl rfl TL.fin) ?_
    refine DR.stepV [_,_,_,_,_,_,_,_,_,_,_,_,_,_,_,_,_,_,_,_,_,_,_,_,_,_,_,_,_,_,_,_,_,_,_,_,_,_,_,_,_,_] rfl [(11,_,none),(110,_,some 33)] rfl rfl ⟨⟨rfl,by kernel_rfl⟩,⟨rfl,rfl,rfl⟩,trivial⟩ (fun ext=>TL.on rfl rfl rfl (by simp) <| TL.move hF rfl rfl TL.fin) ?_
    refine DR.stepV [_,_,_,_,_,_,_,_,_,_,_,_,_,_,_,_,_,_,_,_,_,_,_,_,_,_,_,_,_,_,_,_,_,_,_,_,_,_,_,_,_,_,_] rfl [(117,_,some 40),(118,_,some 41),(110,_,some 33)] rfl rfl ⟨⟨rfl,rfl,rfl⟩,⟨rfl,rfl,rfl⟩,⟨rfl,rfl,rfl⟩,trivial⟩ (fun ext=>TL.on rfl rfl rfl (by simp) <| TL.indexAddr hF rfl rfl (h8.tad pC_len (by decide) (i:=i) hil) (by omega) (by omega) rfl TL.fin) ?_
    refine DR.stepV [_,_,_,_,_,_,_,_,_,_,_,_,_,_,_,_,_,_,_,_,_,_,_,_,_,_,_,_,_,_,_,_,_,_,_,_,_,_,_,_,_,_,_,_] rfl [(119,_,some 42),(110,_,some 33)] rfl rfl ⟨⟨rfl,rfl,rfl⟩,⟨rfl,rfl,rfl⟩,trivial⟩ (fun ext=>TL.on rfl rfl rfl (by simp) <| TL.indexAddrA hF rfl rfl (by omega) (by omega) rfl TL.fin) ?_
    refine DR.stepV [_,_,_,_,_,_,_,_,_,_,_,_,_,_,_,_,_,_,_,_,_,_,_,_,_,_,_,_,_,_,_,_,_,_,_,_,_,_,_,_,_,_,_,_,_] rfl [(120,_,some 43),(110,_,some 33)] rfl rfl ⟨⟨rfl,rfl,rfl⟩,⟨rfl,rfl,rfl⟩,trivial⟩ (fun ext=>TL.on rfl rfl rfl (by simp) <| TL.load hF rfl (lds i hil) rfl TL.fin) ?_
    refine DR.stepV [_,_,_,_,_,_,_,_,_,_,_,_,_,_,_,_,_,_,_,_,_,_,_,_,_,_,_,_,_,_,_,_,_,_,_,_,_,_,_,_,_,_,_,_,_,_] rfl [(121,_,some 44),(110,_,some 33)] rfl rfl ⟨⟨rfl,rfl,rfl⟩,⟨rfl,rfl,rfl⟩,trivial⟩ (fun ext=>TL.on rfl rfl rfl (by simp) <| TL.sub hF rfl rfl (by omega) (by omega) rfl TL.fin) ?_
    refine DR.stepV [_,_,_,_,_,_,_,_,_,_,_,_,_,_,_,_,_,_,_,_,_,_,_,_,_,_,_,_,_,_,_,_,_,_,_,_,_,_,_,_,_,_,_,_,_,_,_] rfl [(111,_,some 34),(116,_,some 39),(122,_,some 45),(110,_,some 33)] rfl rfl ⟨⟨rfl,rfl,rfl⟩,⟨rfl,rfl,rfl⟩,⟨rfl,rfl,rfl⟩,⟨rfl,rfl,rfl⟩,trivial⟩ (fun ext=>TL.on rfl rfl rfl (by simp) <| TL.callV hF (Lies_fn t ((firstS ⟨0,sz,st,0,0⟩ t+i)*st) ((firstS ⟨0,sz,st,0,0⟩ t+i)*st+sz - 1)) rfl rfl TL.fin) ?_
    refine DR.stepV [_,_,_,_,_,_,_,_,_,_,_,_,_,_,_,_,_,_,_,_,_,_,_,_,_,_,_,_,_,_,_,_,_,_,_,_,_,_,_,_,_,_,_,_,_,_,_,_] rfl [(123,_,some 46),(110,_,some 33)] rfl rfl ⟨⟨rfl,rfl,rfl⟩,⟨rfl,rfl,rfl⟩,trivial⟩ (fun ext=>TL.on rfl rfl rfl (by simp) <| TL.not hF rfl rfl TL.fin) ?_
    refine DR.stepV [_,_,_,_,_,_,_,_,_,_,_,_,_,_,_,_,_,_,_,_,_,_,_,_,_,_,_,_,_,_,_,_,_,_,_,_,_,_,_,_,_,_,_,_,_,_,_,_,_] rfl [(110,_,some 33),(124,_,some 47)] rfl rfl ⟨⟨rfl,rfl,rfl⟩,⟨rfl,rfl,rfl⟩,trivial⟩ (fun ext=>TL.pickF hF rfl (by simp) rfl rfl TL.fin) ?_
    refine DR.stepV [_,_,_,_,_,_,_,_,_,_,_,_,_,_,_,_,_,_,_,_,_,_,_,_,_,_,_,_,_,_,_,_,_,_,_,_,_,_,_,_,_,_,_,_,_,_,_,_,_,_] rfl [(125,_,some 48)] rfl rfl ⟨⟨rfl,rfl,rfl⟩,trivial⟩ (fun ext=>TL.move hF rfl rfl TL.fin) ?_
    refine DR.stepV [_,_,_,_,_,_,_,_,_,_,_,_,_,_,_,_,_,_,_,_,_,_,_,_,_,_,_,_,_,_,_,_,_,_,_,_,_,_,_,_,_,_,_,_,_,_,_,_,_,_,_] rfl [(11,_,none),(126,_,some 49)] rfl rfl ⟨⟨rfl,by kernel_rfl⟩,⟨rfl,rfl,rfl⟩,trivial⟩ (fun ext=>TL.on rfl rfl rfl (by simp; omega) <| TL.move hF rfl rfl TL.fin) ?_
    refine DR.stepV [_,_,_,_,_,_,_,_,_,_,_,_,_,_,_,_,_,_,_,_,_,_,_,_,_,_,_,_,_,_,_,_,_,_,_,_,_,_,_,_,_,_,_,_,_,_,_,_,_,_,_,_] rfl [(127,_,some 50),(126,_,some 49)] rfl rfl ⟨⟨rfl,rfl,rfl⟩,⟨rfl,rfl,rfl⟩,trivial⟩ (fun ext=>TL.on rfl rfl rfl (by simp; omega) <| TL.bin hF rfl rfl rfl rfl TL.fin) ?_
    refine DR.stepV [_,_,_,_,_,_,_,_,_,_,_,_,_,_,_,_,_,_,_,_,_,_,_,_,_,_,_,_,_,_,_,_,_,_,_,_,_,_,_,_,_,_,_,_,_,_,_,_,_,_,_,_,_] rfl [(128,_,some 51),(126,_,some 49)] rfl rfl ⟨⟨rfl,rfl,rfl⟩,⟨rfl,rfl,rfl⟩,trivial⟩ (fun ext=>TL.on rfl rfl rfl (by simp; omega) <| TL.move hF rfl rfl TL.fin) ?_
    refine DR.stepV [_,_,_,_,_,_,_,_,_,_,_,_,_,_,_,_,_,_,_,_,_,_,_,_,_,_,_,_,_,_,_,_,_,_,_,_,_,_,_,_,_,_,_,_,_,_,_,_,_,_,_,_,_,_] rfl [(8,_,none),(129,_,some 52)] rfl rfl ⟨⟨rfl,by kernel_rfl⟩,⟨rfl,rfl,rfl⟩,trivial⟩ (fun ext=>TL.on rfl rfl rfl (by simp; omega) <| TL.move hF rfl rfl TL.fin) ?_
    refine DR.stepV [_,_,_,_,_,_,_,_,_,_,_,_,_,_,_,_,_,_,_,_,_,_,_,_,_,_,_,_,_,_,_,_,_,_,_,_,_,_,_,_,_,_,_,_,_,_,_,_,_,_,_,_,_,_,_] rfl [(11,_,none),(129,_,some 52)] rfl rfl ⟨⟨rfl,by kernel_rfl⟩,⟨rfl,rfl,rfl⟩,trivial⟩ (fun ext=>TL.on rfl rfl rfl (by simp; omega) <| TL.move hF rfl rfl TL.fin) ?_
    refine DR.stepV [_,_,_,_,_,_,_,_,_,_,_,_,_,_,_,_,_,_,_,_,_,_,_,_,_,_,_,_,_,_,_,_,_,_,_,_,_,_,_,_,_,_,_,_,_,_,_,_,_,_,_,_,_,_,_,_] rfl [(130,_,some 53),(131,_,some 54),(129,_,some 52)] rfl rfl ⟨⟨rfl,rfl,rfl⟩,⟨rfl,rfl,rfl⟩,⟨rfl,rfl,rfl⟩,trivial⟩ (fun ext=>TL.on rfl rfl rfl (by simp; omega) <| TL.indexAddr hF rfl rfl (h8.tad pC_len (by decide) (i:=i) hil) (by omega) (by omega) rfl TL.fin) ?_
    refine DR.stepV [_,_,_,_,_,_,_,_,_,_,_,_,_,_,_,_,_,_,_,_,_,_,_,_,_,_,_,_,_,_,_,_,_,_,_,_,_,_,_,_,_,_,_,_,_,_,_,_,_,_,_,_,_,_,_,_,_] rfl [(132,_,some 55),(129,_,some 52)] rfl rfl ⟨⟨rfl,rfl,rfl⟩,⟨rfl,rfl,rfl⟩,trivial⟩ (fun ext=>TL.on rfl rfl rfl (by simp; omega) <| TL.indexAddrA hF rfl rfl (by omega) (by omega) rfl TL.fin) ?_
    refine DR.stepV [_,_,_,_,_,_,_,_,_,_,_,_,_,_,_,_,_,_,_,_,_,_,_,_,_,_,_,_,_,_,_,_,_,_,_,_,_,_,_,_,_,_,_,_,_,_,_,_,_,_,_,_,_,_,_,_,_,_] rfl [(133,_,some 56),(129,_,some 52)] rfl rfl ⟨⟨rfl,rfl,rfl⟩,⟨rfl,rfl,rfl⟩,trivial⟩ (fun ext=>TL.on rfl rfl rfl (by simp; omega) <| TL.load hF rfl (ldf i hil) rfl TL.fin) ?_
    refine DR.stepV [_,_,_,_,_,_,_,_,_,_,_,_,_,_,_,_,_,_,_,_,_,_,_,_,_,_,_,_,_,_,_,_,_,_,_,_,_,_,_,_,_,_,_,_,_,_,_,_,_,_,_,_,_,_,_,_,_,_,_] rfl [(8,_,none),(129,_,some 52)] rfl rfl ⟨⟨rfl,by kernel_rfl⟩,⟨rfl,rfl,rfl⟩,trivial⟩ (fun ext=>TL.on rfl rfl rfl (by simp; omega) <| TL.move hF rfl rfl TL.fin) ?_
    refine DR.stepV [_,_,_,_,_,_,_,_,_,_,_,_,_,_,_,_,_,_,_,_,_,_,_,_,_,_,_,_,_,_,_,_,_,_,_,_,_,_,_,_,_,_,_,_,_,_,_,_,_,_,_,_,_,_,_,_,_,_,_,_] rfl [(11,_,none),(129,_,some 52)] rfl rfl ⟨⟨rfl,by kernel_rfl⟩,⟨rfl,rfl,rfl⟩,trivial⟩ (fun ext=>TL.on rfl rfl rfl (by simp; omega) <| TL.move hF rfl rfl TL.fin) ?_
    refine DR.stepV [_,_,_,_,_,_,_,_,_,_,_,_,_,_,_,_,_,_,_,_,_,_,_,_,_,_,_,_,_,_,_,_,_,_,_,_,_,_,_,_,_,_,_,_,_,_,_,_,_,_,_,_,_,_,_,_,_,_,_,_,_] rfl [(136,_,some 59),(129,_,some 52)] rfl rfl ⟨⟨rfl,rfl,rfl⟩,⟨rfl,rfl,rfl⟩,trivial⟩ (fun ext=>TL.on rfl rfl rfl (by simp; omega) <| TL.sub hF rfl rfl (by omega) (by omega) rfl TL.fin) ?_
    refine DR.stepV [_,_,_,_,_,_,_,_,_,_,_,_,_,_,_,_,_,_,_,_,_,_,_,_,_,_,_,_,_,_,_,_,_,_,_,_,_,_,_,_,_,_,_,_,_,_,_,_,_,_,_,_,_,_,_,_,_,_,_,_,_,_] rfl [(135,_,some 58),(137,_,some 60),(129,_,some 52)] rfl rfl ⟨⟨rfl,rfl,rfl⟩,⟨rfl,rfl,rfl⟩,⟨rfl,rfl,rfl⟩,trivial⟩ (fun ext=>TL.on rfl rfl rfl (by simp; omega) <| TL.indexAddr hF rfl rfl (h8.tad pC_len (by decide) (i:=i - 1) (by omega)) (by omega) (by omega) rfl TL.fin) ?_
    refine DR.stepV [_,_,_,_,_,_,_,_,_,_,_,_,_,_,_,_,_,_,_,_,_,_,_,_,_,_,_,_,_,_,_,_,_,_,_,_,_,_,_,_,_,_,_,_,_,_,_,_,_,_,_,_,_,_,_,_,_,_,_,_,_,_,_] rfl [(138,_,some 61),(129,_,some 52)] rfl rfl ⟨⟨rfl,rfl,rfl⟩,⟨rfl,rfl,rfl⟩,trivial⟩ (fun ext=>TL.on rfl rfl rfl (by simp; omega) <| TL.indexAddrA hF rfl rfl (by omega) (by omega) rfl TL.fin) ?_
    refine DR.stepV [_,_,_,_,_,_,_,_,_,_,_,_,_,_,_,_,_,_,_,_,_,_,_,_,_,_,_,_,_,_,_,_,_,_,_,_,_,_,_,_,_,_,_,_,_,_,_,_,_,_,_,_,_,_,_,_,_,_,_,_,_,_,_,_] rfl [(139,_,some 62),(129,_,some 52)] rfl rfl ⟨⟨rfl,rfl,rfl⟩,⟨rfl,rfl,rfl⟩,trivial⟩ (fun ext=>TL.on rfl rfl rfl (by simp; omega) <| TL.load hF rfl (by rw [show ((i:Int)-1).toNat=i - 1 by omega]; exact ldf (i - 1) (by omega)) rfl TL.fin) ?_
    refine DR.stepV [_,_,_,_,_,_,_,_,_,_,_,_,_,_,_,_,_,_,_,_,_,_,_,_,_,_,_,_,_,_,_,_,_,_,_,_,_,_,_,_,_,_,_,_,_,_,_,_,_,_,_,_,_,_,_,_,_,_,_,_,_,_,_,_,_] rfl [(7,_,none),(129,_,some 52)] rfl rfl ⟨⟨rfl,by kernel_rfl⟩,⟨rfl,rfl,rfl⟩,trivial⟩ (fun ext=>TL.on rfl rfl rfl (by simp; omega) <| TL.fieldAddr hF rfl rfl TL.fin) ?_
    refine DR.stepV [_,_,_,_,_,_,_,_,_,_,_,_,_,_,_,_,_,_,_,_,_,_,_,_,_,_,_,_,_,_,_,_,_,_,_,_,_,_,_,_,_,_,_,_,_,_,_,_,_,_,_,_,_,_,_,_,_,_,_,_,_,_,_,_,_,_] rfl [(141,_,some 64),(129,_,some 52)] rfl rfl ⟨⟨rfl,rfl,rfl⟩,⟨rfl,rfl,rfl⟩,trivial⟩ (fun ext=>TL.on rfl rfl rfl (by simp; omega) <| TL.load hF rfl (show At _ _ _ _ (.int .i64 st) from own_mem (b:=b7) (cs:=(wsC ⟨0,sz,st,0,0⟩).toArray) (e:=23) (fz:=(0,0)) (by simp) rfl) rfl TL.fin) ?_
    refine DR.stepV [_,_,_,_,_,_,_,_,_,_,_,_,_,_,_,_,_,_,_,_,_,_,_,_,_,_,_,_,_,_,_,_,_,_,_,_,_,_,_,_,_,_,_,_,_,_,_,_,_,_,_,_,_,_,_,_,_,_,_,_,_,_,_,_,_,_,_] rfl [(140,_,some 63),(142,_,some 65),(129,_,some 52)] rfl rfl ⟨⟨rfl,rfl,rfl⟩,⟨rfl,rfl,rfl⟩,⟨rfl,rfl,rfl⟩,trivial⟩ (fun ext=>TL.on rfl rfl rfl (by simp; omega) <| TL.add hF rfl rfl (by have:=hstep hi0; omega) (by have:=hstep hi0; omega) rfl TL.fin) ?_
    refine DR.done [(143,_),(142,_),(141,_),(140,_),(139,_),(138,_),(137,_),(136,_),(135,_),(134,_),(133,_),(132,_),(131,_),(130,_),(129,_),(128,_),(127,_),(126,_),(125,_),(124,_),(123,_),(122,_),(121,_),(120,_),(119,_),(118,_),(117,_),(116,_),(115,_),(114,_),(113,_),(112,_),(111,_),(110,_),(109,_),(108,_),(107,_),(106,_),(105,_),(104,_),(103,_),(102,_),(101,_),(100,_),(99,_),(98,_),(97,_),(96,_),(95,_),(94,_),(93,_),(92,_),(91,_),(90,_),(89,_),(88,_),(87,_),(86,_),(85,_),(84,_),(83,_),(82,_),(81,_),(80,_),(79,_),(78,_),(77,_)] [_,_,_] mixed (by kernel_rfl) (by kernel_rfl) (by kernel_rfl) rfl rfl ?_
    refine TL.on rfl rfl rfl (by simp; omega) ?_
    refine TL.bin hF rfl rfl rfl rfl ?_
    refine TL.on rfl rfl rfl (by simp; omega) ?_
    refine TL.pickT hF rfl (by simp; omega) rfl rfl ?_
    refine TL.pickF hF rfl (by simp; omega) rfl rfl ?_
    refine TL.nil ?_
    refine TQ.then_n ?_
    refine T.cond_f rfl (by first | rfl | (rw [hstep hi0]; simp)) ?_
    refine T.skip ?_
    refine TQ.block_n ?_
    refine TQ.then_n ?_
    refine T.region ?_
    refine TL.move hF rfl rfl ?_
    refine TL.add hF rfl rfl (by omega) (by omega) rfl ?_
    refine TL.assign hF rfl rfl ?_
    refine TL.nil ?_
    exact TQ.round (i+1) (by omega) (by omega) ⟨rfl,rfl,rfl,rfl,rfl,trivial⟩ rfl
   ·have hil:i<sp.length:=by have h:(i:Int)<(sp.length:Int):=ht74; omega
    have hat:∀ j:Nat,(hj:j<sp.length)→sp[j]=((firstS ⟨0,sz,st,0,0⟩ t+j)*st,(firstS ⟨0,sz,st,0,0⟩ t+j)*st+sz):=fun j hj=>by
     have h1:=spans_at (s:=⟨0,sz,st,0,0⟩) (t:=t) (i:=j) (by omega)
     rw [← hsp,List.getElem?_eq_getElem hj] at h1
     exact Option.some.inj h1
    have ldf:∀ (j:Nat) (hj:j<sp.length),At S1 w1 ([(b7,Obj.cells (wsC ⟨0,sz,st,0,0⟩).toArray 23 (0,0))]::η) ⟨(sAt wa (j*2)).block,(sAt wa (j*2)).off+0,none⟩ (.int .i64 ((firstS ⟨0,sz,st,0,0⟩ t+j)*st)):=fun j hj=>by
     have h1:=(h8.up (η':=[(b7,Obj.cells (wsC ⟨0,sz,st,0,0⟩).toArray 23 (0,0))]::η) (by simp)).tabA pC_len hj 0 (.int .i64 sp[j].1) rfl
     rw [hat j hj] at h1; exact h1
    have lds:∀ (j:Nat) (hj:j<sp.length),At S1 w1 ([(b7,Obj.cells (wsC ⟨0,sz,st,0,0⟩).toArray 23 (0,0))]::η) ⟨(sAt wa (j*2)).block,(sAt wa (j*2)).off+1,none⟩ (.int .i64 ((firstS ⟨0,sz,st,0,0⟩ t+j)*st+sz)):=fun j hj=>by
     have h1:=(h8.up (η':=[(b7,Obj.cells (wsC ⟨0,sz,st,0,0⟩).toArray 23 (0,0))]::η) (by simp)).tabA pC_len hj 1 (.int .i64 sp[j].2) rfl
     rw [hat j hj] at h1; exact h1
    have hmem:sp[i]∈spansS ⟨0,sz,st,0,0⟩ t:=by rw [← hsp]; exact List.getElem_mem hil
    have hin:=(mem_spans htok.sp).1 hmem
    rw [hat i hil] at hin
    obtain ⟨_,hi1,hi2⟩:=hin
    dsimp only at hi1 hi2
    have hstep:0<i→(firstS ⟨0,sz,st,0,0⟩ t+i)*st=(firstS ⟨0,sz,st,0,0⟩ t+((i - 1:Nat):Int))*st+st:=fun h=>by rw [show (i:Int)=((i - 1:Nat):Int)+1 by omega,← Int.add_assoc,Int.add_mul,Int.one_mul]
    have hnn:0≤(firstS ⟨0,sz,st,0,0⟩ t+i)*st:=Int.mul_nonneg (by omega) (by omega)
    refine T.draw ?_
    refine DR.stepV [_] rfl [(8,_,none)] rfl rfl ⟨⟨rfl,by kernel_rfl⟩,trivial⟩ (fun ext=>TL.move hF rfl rfl TL.fin) ?_
    refine DR.stepV [_,_] rfl [(11,_,none)] rfl rfl ⟨⟨rfl,by kernel_rfl⟩,trivial⟩ (fun ext=>TL.move hF rfl rfl TL.fin) ?_
    refine DR.stepV [_,_,_] rfl [(77,_,some 0),(78,_,some 1)] rfl rfl ⟨⟨rfl,rfl,rfl⟩,⟨rfl,rfl,rfl⟩,trivial⟩ (fun ext=>TL.indexAddr hF rfl rfl (h8.tad pC_len (by decide) (i:=i) hil) (by omega) (by omega) rfl TL.fin) ?_
    refine DR.stepV [_,_,_,_] rfl [(79,_,some 2)] rfl rfl ⟨⟨rfl,rfl,rfl⟩,trivial⟩ (fun ext=>TL.indexAddrA hF rfl rfl (by omega) (by omega) rfl TL.fin) ?_
    refine DR.stepV [_,_,_,_,_] rfl [(80,_,some 3)] rfl rfl ⟨⟨rfl,rfl,rfl⟩,trivial⟩ (fun ext=>TL.load hF rfl (ldf i hil) rfl TL.fin) ?_
    refine DR.stepV [_,_,_,_,_,_] rfl [(81,_,some 4)] rfl rfl ⟨⟨rfl,rfl,rfl⟩,trivial⟩ (fun ext=>TL.bin hF rfl rfl rfl rfl TL.fin) ?_
    refine DR.stepV [_,_,_,_,_,_,_] rfl [(82,_,some 5)] rfl rfl ⟨⟨rfl,rfl,rfl⟩,trivial⟩ (fun ext=>TL.move hF rfl rfl TL.fin) ?_
    refine DR.stepV [_,_,_,_,_,_,_,_] rfl [(8,_,none),(83,_,some 6)] rfl rfl ⟨⟨rfl,by kernel_rfl⟩,⟨rfl,rfl,rfl⟩,trivial⟩ (fun ext=>TL.on rfl rfl rfl (by rw [decide_eq_false_iff_not]; omega) <| TL.move hF rfl rfl TL.fin) ?_
    refine DR.stepV [_,_,_,_,_,_,_,_,_] rfl [(11,_,none),(83,_,some 6)] rfl rfl ⟨⟨rfl,by kernel_rfl⟩,⟨rfl,rfl,rfl⟩,trivial⟩ (fun ext=>TL.on rfl rfl rfl (by rw [decide_eq_false_iff_not]; omega) <| TL.move hF rfl rfl TL.fin) ?_
    refine DR.stepV [_,_,_,_,_,_,_,_,_,_] rfl [(84,_,some 7),(85,_,some 8),(83,_,some 6)] rfl rfl ⟨⟨rfl,rfl,rfl⟩,⟨rfl,rfl,rfl⟩,⟨rfl,rfl,rfl⟩,trivial⟩ (fun ext=>TL.on rfl rfl rfl (by rw [decide_eq_false_iff_not]; omega) <| TL.indexAddr hF rfl rfl (h8.tad pC_len (by decide) (i:=i) hil) (by omega) (by omega) rfl TL.fin) ?_
    refine DR.stepV [_,_,_,_,_,_,_,_,_,_,_] rfl [(86,_,some 9),(83,_,some 6)] rfl rfl ⟨⟨rfl,rfl,rfl⟩,⟨rfl,rfl,rfl⟩,trivial⟩ (fun ext=>TL.on rfl rfl rfl (by rw [decide_eq_false_iff_not]; omega) <| TL.indexAddrA hF rfl rfl (by omega) (by omega) rfl TL.fin) ?_
    refine DR.stepV [_,_,_,_,_,_,_,_,_,_,_,_] rfl [(87,_,some 10),(83,_,some 6)] rfl rfl ⟨⟨rfl,rfl,rfl⟩,⟨rfl,rfl,rfl⟩,trivial⟩ (fun ext=>TL.on rfl rfl rfl (by rw [decide_eq_false_iff_not]; omega) <| TL.load hF rfl (ldf i hil) rfl TL.fin) ?_
    refine DR.stepV [_,_,_,_,_,_,_,_,_,_,_,_,_] rfl [(7,_,none),(83,_,some 6)] rfl rfl ⟨⟨rfl,by kernel_rfl⟩,⟨rfl,rfl,rfl⟩,trivial⟩ (fun ext=>TL.on rfl rfl rfl (by rw [decide_eq_false_iff_not]; omega) <| TL.fieldAddr hF rfl rfl TL.fin) ?_
    refine DR.stepV [_,_,_,_,_,_,_,_,_,_,_,_,_,_] rfl [(89,_,some 12),(83,_,some 6)] rfl rfl ⟨⟨rfl,rfl,rfl⟩,⟨rfl,rfl,rfl⟩,trivial⟩ (fun ext=>TL.on rfl rfl rfl (by rw [decide_eq_false_iff_not]; omega) <| TL.load hF rfl (show At _ _ _ _ (.int .i64 st) from own_mem (b:=b7) (cs:=(wsC ⟨0,sz,st,0,0⟩).toArray) (e:=23) (fz:=(0,0)) (by simp) rfl) rfl TL.fin) ?_
    refine DR.stepV [_,_,_,_,_,_,_,_,_,_,_,_,_,_,_] rfl [(88,_,some 11),(90,_,some 13),(83,_,some 6)] rfl rfl ⟨⟨rfl,rfl,rfl⟩,⟨rfl,rfl,rfl⟩,⟨rfl,rfl,rfl⟩,trivial⟩ (fun ext=>TL.on rfl rfl rfl (by rw [decide_eq_false_iff_not]; omega) <| TL.remI hF rfl rfl (by omega) rfl TL.fin) ?_
    refine DR.stepV [_,_,_,_,_,_,_,_,_,_,_,_,_,_,_,_] rfl [(91,_,some 14),(83,_,some 6)] rfl rfl ⟨⟨rfl,rfl,rfl⟩,⟨rfl,rfl,rfl⟩,trivial⟩ (fun ext=>TL.on rfl rfl rfl (by rw [decide_eq_false_iff_not]; omega) <| TL.bin hF rfl rfl rfl rfl TL.fin) ?_
    refine DR.stepV [_,_,_,_,_,_,_,_,_,_,_,_,_,_,_,_,_] rfl [(83,_,some 6),(92,_,some 15)] rfl rfl ⟨⟨rfl,rfl,rfl⟩,⟨rfl,rfl,rfl⟩,trivial⟩ (fun ext=>TL.pickF hF rfl (by rw [decide_eq_false_iff_not]; omega) rfl rfl TL.fin) ?_
    refine DR.stepV [_,_,_,_,_,_,_,_,_,_,_,_,_,_,_,_,_,_] rfl [(93,_,some 16)] rfl rfl ⟨⟨rfl,rfl,rfl⟩,trivial⟩ (fun ext=>TL.move hF rfl rfl TL.fin) ?_
    refine DR.stepV [_,_,_,_,_,_,_,_,_,_,_,_,_,_,_,_,_,_,_] rfl [(8,_,none),(94,_,some 17)] rfl rfl ⟨⟨rfl,by kernel_rfl⟩,⟨rfl,rfl,rfl⟩,trivial⟩ (fun ext=>TL.on rfl rfl rfl (by rw [rem_mul _ (by omega) (by omega)]; rfl) <| TL.move hF rfl rfl TL.fin) ?_
    refine DR.stepV [_,_,_,_,_,_,_,_,_,_,_,_,_,_,_,_,_,_,_,_] rfl [(11,_,none),(94,_,some 17)] rfl rfl ⟨⟨rfl,by kernel_rfl⟩,⟨rfl,rfl,rfl⟩,trivial⟩ (fun ext=>TL.on rfl rfl rfl (by rw [rem_mul _ (by omega) (by omega)]; rfl) <| TL.move hF rfl rfl TL.fin) ?_
    refine DR.stepV [_,_,_,_,_,_,_,_,_,_,_,_,_,_,_,_,_,_,_,_,_] rfl [(95,_,some 18),(96,_,some 19),(94,_,some 17)] rfl rfl ⟨⟨rfl,rfl,rfl⟩,⟨rfl,rfl,rfl⟩,⟨rfl,rfl,rfl⟩,trivial⟩ (fun ext=>TL.on rfl rfl rfl (by rw [rem_mul _ (by omega) (by omega)]; rfl) <| TL.indexAddr hF rfl rfl (h8.tad pC_len (by decide) (i:=i) hil) (by omega) (by omega) rfl TL.fin) ?_
    refine DR.stepV [_,_,_,_,_,_,_,_,_,_,_,_,_,_,_,_,_,_,_,_,_,_] rfl [(97,_,some 20),(94,_,some 17)] rfl rfl ⟨⟨rfl,rfl,rfl⟩,⟨rfl,rfl,rfl⟩,trivial⟩ (fun ext=>TL.on rfl rfl rfl (by rw [rem_mul _ (by omega) (by omega)]; rfl) <| TL.indexAddrA hF rfl rfl (by omega) (by omega) rfl TL.fin) ?_
    refine DR.stepV [_,_,_,_,_,_,_,_,_,_,_,_,_,_,_,_,_,_,_,_,_,_,_] rfl [(98,_,some 21),(94,_,some 17)] rfl rfl ⟨⟨rfl,rfl,rfl⟩,⟨rfl,rfl,rfl⟩,trivial⟩ (fun ext=>TL.on rfl rfl rfl (by rw [rem_mul _ (by omega) (by omega)]; rfl) <| TL.load hF rfl (lds i hil) rfl TL.fin) ?_
    refine DR.stepV [_,_,_,_,_,_,_,_,_,_,_,_,_,_,_,_,_,_,_,_,_,_,_,_] rfl [(8,_,none),(94,_,some 17)] rfl rfl ⟨⟨rfl,by kernel_rfl⟩,⟨rfl,rfl,rfl⟩,trivial⟩ (fun ext=>TL.on rfl rfl rfl (by rw [rem_mul _ (by omega) (by omega)]; rfl) <| TL.move hF rfl rfl TL.fin) ?_
    refine DR.stepV [_,_,_,_,_,_,_,_,_,_,_,_,_,_,_,_,_,_,_,_,_,_,_,_,_] rfl [(11,_,none),(94,_,some 17)] rfl rfl ⟨⟨rfl,by kernel_rfl⟩,⟨rfl,rfl,rfl⟩,trivial⟩ (fun ext=>TL.on rfl rfl rfl (by rw [rem_mul _ (by omega) (by omega)]; rfl) <| TL.move hF rfl rfl TL.fin) ?_
    refine DR.stepV [_,_,_,_,_,_,_,_,_,_,_,_,_,_,_,_,_,_,_,_,_,_,_,_,_,_] rfl [(100,_,some 23),(101,_,some 24),(94,_,some 17)] rfl rfl ⟨⟨rfl,rfl,rfl⟩,⟨rfl,rfl,rfl⟩,⟨rfl,rfl,rfl⟩,trivial⟩ (fun ext=>TL.on rfl rfl rfl (by rw [rem_mul _ (by omega) (by omega)]; rfl) <| TL.indexAddr hF rfl rfl (h8.tad pC_len (by decide) (i:=i) hil) (by omega) (by omega) rfl TL.fin) ?_
    refine DR.stepV [_,_,_,_,_,_,_,_,_,_,_,_,_,_,_,_,_,_,_,_,_,_,_,_,_,_,_] rfl [(102,_,some 25),(94,_,some 17)] rfl rfl ⟨⟨rfl,rfl,rfl⟩,⟨rfl,rfl,rfl⟩,trivial⟩ (fun ext=>TL.on rfl rfl rfl (by rw [rem_mul _ (by omega) (by omega)]; rfl) <| TL.indexAddrA hF rfl rfl (by omega) (by omega) rfl TL.fin) ?_
    refine DR.stepV [_,_,_,_,_,_,_,_,_,_,_,_,_,_,_,_,_,_,_,_,_,_,_,_,_,_,_,_] rfl [(103,_,some 26),(94,_,some 17)] rfl rfl ⟨⟨rfl,rfl,rfl⟩,⟨rfl,rfl,rfl⟩,trivial⟩ (fun ext=>TL.on rfl rfl rfl (by rw [rem_mul _ (by omega) (by omega)]; rfl) <| TL.load hF rfl (ldf i hil) rfl TL.fin) ?_
    refine DR.stepV [_,_,_,_,_,_,_,_,_,_,_,_,_,_,_,_,_,_,_,_,_,_,_,_,_,_,_,_,_] rfl [(7,_,none),(94,_,some 17)] rfl rfl ⟨⟨rfl,by kernel_rfl⟩,⟨rfl,rfl,rfl⟩,trivial⟩ (fun ext=>TL.on rfl rfl rfl (by rw [rem_mul _ (by omega) (by omega)]; rfl) <| TL.fieldAddr hF rfl rfl TL.fin) ?_
    refine DR.stepV [_,_,_,_,_,_,_,_,_,_,_,_,_,_,_,_,_,_,_,_,_,_,_,_,_,_,_,_,_,_] rfl [(105,_,some 28),(94,_,some 17)] rfl rfl ⟨⟨rfl,rfl,rfl⟩,⟨rfl,rfl,rfl⟩,trivial⟩ (fun ext=>TL.on rfl rfl rfl (by rw [rem_mul _ (by omega) (by omega)]; rfl) <| TL.load hF rfl (show At _ _ _ _ (.int .i64 sz) from own_mem (b:=b7) (cs:=(wsC ⟨0,sz,st,0,0⟩).toArray) (e:=23) (fz:=(0,0)) (by simp) rfl) rfl TL.fin) ?_
    refine DR.stepV [_,_,_,_,_,_,_,_,_,_,_,_,_,_,_,_,_,_,_,_,_,_,_,_,_,_,_,_,_,_,_] rfl [(104,_,some 27),(106,_,some 29),(94,_,some 17)] rfl rfl ⟨⟨rfl,rfl,rfl⟩,⟨rfl,rfl,rfl⟩,⟨rfl,rfl,rfl⟩,trivial⟩ (fun ext=>TL.on rfl rfl rfl (by rw [rem_mul _ (by omega) (by omega)]; rfl) <| TL.add hF rfl rfl (by omega) (by omega) rfl TL.fin) ?_
    refine DR.stepV [_,_,_,_,_,_,_,_,_,_,_,_,_,_,_,_,_,_,_,_,_,_,_,_,_,_,_,_,_,_,_,_] rfl [(99,_,some 22),(107,_,some 30),(94,_,some 17)] rfl rfl ⟨⟨rfl,rfl,rfl⟩,⟨rfl,rfl,rfl⟩,⟨rfl,rfl,rfl⟩,trivial⟩ (fun ext=>TL.on rfl rfl rfl (by rw [rem_mul _ (by omega) (by omega)]; rfl) <| TL.bin hF rfl rfl rfl rfl TL.fin) ?_
    refine DR.stepV [_,_,_,_,_,_,_,_,_,_,_,_,_,_,_,_,_,_,_,_,_,_,_,_,_,_,_,_,_,_,_,_,_] rfl [(94,_,some 17),(108,_,some 31)] rfl rfl ⟨⟨rfl,rfl,rfl⟩,⟨rfl,rfl,rfl⟩,trivial⟩ (fun ext=>TL.pickF hF rfl (by rw [rem_mul _ (by omega) (by omega)]; rfl) rfl rfl TL.fin) ?_
    refine DR.stepV [_,_,_,_,_,_,_,_,_,_,_,_,_,_,_,_,_,_,_,_,_,_,_,_,_,_,_,_,_,_,_,_,_,_] rfl [(109,_,some 32)] rfl rfl ⟨⟨rfl,rfl,rfl⟩,trivial⟩ (fun ext=>TL.move hF rfl rfl TL.fin) ?_
    refine DR.stepV [_,_,_,_,_,_,_,_,_,_,_,_,_,_,_,_,_,_,_,_,_,_,_,_,_,_,_,_,_,_,_,_,_,_,_] rfl [(2,_,none),(110,_,some 33)] rfl rfl ⟨⟨rfl,by kernel_rfl⟩,⟨rfl,rfl,rfl⟩,trivial⟩ (fun ext=>TL.on rfl rfl rfl (by simp) <| TL.move hF rfl rfl TL.fin) ?_
    refine DR.stepV [_,_,_,_,_,_,_,_,_,_,_,_,_,_,_,_,_,_,_,_,_,_,_,_,_,_,_,_,_,_,_,_,_,_,_,_] rfl [(8,_,none),(110,_,some 33)] rfl rfl ⟨⟨rfl,by kernel_rfl⟩,⟨rfl,rfl,rfl⟩,trivial⟩ (fun ext=>TL.on rfl rfl rfl (by simp) <| TL.move hF rfl rfl TL.fin) ?_
    refine DR.stepV [_,_,_,_,_,_,_,_,_,_,_,_,_,_,_,_,_,_,_,_,_,_,_,_,_,_,_,_,_,_,_,_,_,_,_,_,_] rfl [(11,_,none),(110,_,some 33)] rfl rfl ⟨⟨rfl,by kernel_rfl⟩,⟨rfl,rfl,rfl⟩,trivial⟩ (fun ext=>TL.on rfl rfl rfl (by simp) <| TL.move hF rfl rfl TL.fin) ?_
    refine DR.stepV [_,_,_,_,_,_,_,_,_,_,_,_,_,_,_,_,_,_,_,_,_,_,_,_,_,_,_,_,_,_,_,_,_,_,_,_,_,_] rfl [(112,_,some 35),(113,_,some 36),(110,_,some 33)] rfl rfl ⟨⟨rfl,rfl,rfl⟩,⟨rfl,rfl,rfl⟩,⟨rfl,rfl,rfl⟩,trivial⟩ (fun ext=>TL.on rfl rfl rfl (by simp) <| TL.indexAddr hF rfl rfl (h8.tad pC_len (by decide) (i:=i) hil) (by omega) (by omega) rfl TL.fin) ?_
    refine DR.stepV [_,_,_,_,_,_,_,_,_,_,_,_,_,_,_,_,_,_,_,_,_,_,_,_,_,_,_,_,_,_,_,_,_,_,_,_,_,_,_] rfl [(114,_,some 37),(110,_,some 33)] rfl rfl ⟨⟨rfl,rfl,rfl⟩,⟨rfl,rfl,rfl⟩,trivial⟩ (fun ext=>TL.on rfl rfl rfl (by simp) <| TL.indexAddrA hF rfl rfl (by omega) (by omega) rfl TL.fin) ?_
    refine DR.stepV [_,_,_,_,_,_,_,_,_,_,_,_,_,_,_,_,_,_,_,_,_,_,_,_,_,_,_,_,_,_,_,_,_,_,_,_,_,_,_,_] rfl [(115,_,some 38),(110,_,some 33)] rfl rfl ⟨⟨rfl,rfl,rfl⟩,⟨rfl,rfl,rfl⟩,trivial⟩ (fun ext=>TL.on rfl rfl rfl (by simp) <| TL.load hF rfl (ldf i hil) rfl TL.fin) ?_
    refine DR.stepV [_,_,_,_,_,_,_,_,_,_,_,_,_,_,_,_,_,_,_,_,_,_,_,_,_,_,_,_,_,_,_,_,_,_,_,_,_,_,_,_,_] rfl [(8,_,none),(110,_,some 33)] rfl rfl ⟨⟨rfl,by kernel_rfl⟩,⟨rfl,rfl,rfl⟩,trivial⟩ (fun ext=>TL.on rfl rfl rfl (by simp) <| TL.move hF rfl rfl TL.fin) ?_
    refine DR.stepV [_,_,_,_,_,_,_,_,_,_,_,_,_,_,_,_,_,_,_,_,_,_,_,_,_,_,_,_,_,_,_,_,_,_,_,_,_,_,_,_,_,_] rfl [(11,_,none),(110,_,some 33)] rfl rfl ⟨⟨rfl,by kernel_rfl⟩,⟨rfl,rfl,rfl⟩,trivial⟩ (fun ext=>TL.on rfl rfl rfl (by simp) <| TL.move hF rfl rfl TL.fin) ?_
    refine DR.stepV [_,_,_,_,_,_,_,_,_,_,_,_,_,_,_,_,_,_,_,_,_,_,_,_,_,_,_,_,_,_,_,_,_,_,_,_,_,_,_,_,_,_,_] rfl [(117,_,some 40),(118,_,some 41),(110,_,some 33)] rfl rfl ⟨⟨rfl,rfl,rfl⟩,⟨rfl,rfl,rfl⟩,⟨rfl,rfl,rfl⟩,trivial⟩ (fun ext=>TL.on rfl rfl rfl (by simp) <| TL.indexAddr hF rfl rfl (h8.tad pC_len (by decide) (i:=i) hil) (by omega) (by omega) rfl TL.fin) ?_
    refine DR.stepV [_,_,_,_,_,_,_,_,_,_,_,_,_,_,_,_,_,_,_,_,_,_,_,_,_,_,_,_,_,_,_,_,_,_,_,_,_,_,_,_,_,_,_,_] rfl [(119,_,some 42),(110,_,some 33)] rfl rfl ⟨⟨rfl,rfl,rfl⟩,⟨rfl,rfl,rfl⟩,trivial⟩ (fun ext=>TL.on rfl rfl rfl (by simp) <| TL.indexAddrA hF rfl rfl (by omega) (by omega) rfl TL.fin) ?_
    refine DR.stepV [_,_,_,_,_,_,_,_,_,_,_,_,_,_,_,_,_,_,_,_,_,_,_,_,_,_,_,_,_,_,_,_,_,_,_,_,_,_,_,_,_,_,_,_,_] rfl [(120,_,some 43),(110,_,some 33)] rfl rfl ⟨⟨rfl,rfl,rfl⟩,⟨rfl,rfl,rfl⟩,trivial⟩ (fun ext=>TL.on rfl rfl rfl (by simp) <| TL.load hF rfl (lds i hil) rfl TL.fin) ?_
    refine DR.stepV [_,_,_,_,_,_,_,_,_,_,_,_,_,_,_,_,_,_,_,_,_,_,_,_,_,_,_,_,_,_,_,_,_,_,_,_,_,_,_,_,_,_,_,_,_,_] rfl [(121,_,some 44),(110,_,some 33)] rfl rfl ⟨⟨rfl,rfl,rfl⟩,⟨rfl,rfl,rfl⟩,trivial⟩ (fun ext=>TL.on rfl rfl rfl (by simp) <| TL.sub hF rfl rfl (by omega) (by omega) rfl TL.fin) ?_
    refine DR.stepV [_,_,_,_,_,_,_,_,_,_,_,_,_,_,_,_,_,_,_,_,_,_,_,_,_,_,_,_,_,_,_,_,_,_,_,_,_,_,_,_,_,_,_,_,_,_,_] rfl [(111,_,some 34),(116,_,some 39),(122,_,some 45),(110,_,some 33)] rfl rfl ⟨⟨rfl,rfl,rfl⟩,⟨rfl,rfl,rfl⟩,⟨rfl,rfl,rfl⟩,⟨rfl,rfl,rfl⟩,trivial⟩ (fun ext=>TL.on rfl rfl rfl (by simp) <| TL.callV hF (Lies_fn t ((firstS ⟨0,sz,st,0,0⟩ t+i)*st) ((firstS ⟨0,sz,st,0,0⟩ t+i)*st+sz - 1)) rfl rfl TL.fin) ?_
    refine DR.stepV [_,_,_,_,_,_,_,_,_,_,_,_,_,_,_,_,_,_,_,_,_,_,_,_,_,_,_,_,_,_,_,_,_,_,_,_,_,_,_,_,_,_,_,_,_,_,_,_] rfl [(123,_,some 46),(110,_,some 33)] rfl rfl ⟨⟨rfl,rfl,rfl⟩,⟨rfl,rfl,rfl⟩,trivial⟩ (fun ext=>TL.on rfl rfl rfl (by simp) <| TL.not hF rfl rfl TL.fin) ?_
    refine DR.stepV [_,_,_,_,_,_,_,_,_,_,_,_,_,_,_,_,_,_,_,_,_,_,_,_,_,_,_,_,_,_,_,_,_,_,_,_,_,_,_,_,_,_,_,_,_,_,_,_,_] rfl [(110,_,some 33),(124,_,some 47)] rfl rfl ⟨⟨rfl,rfl,rfl⟩,⟨rfl,rfl,rfl⟩,trivial⟩ (fun ext=>TL.pickF hF rfl (by simp) rfl rfl TL.fin) ?_
    refine DR.stepV [_,_,_,_,_,_,_,_,_,_,_,_,_,_,_,_,_,_,_,_,_,_,_,_,_,_,_,_,_,_,_,_,_,_,_,_,_,_,_,_,_,_,_,_,_,_,_,_,_,_] rfl [(125,_,some 48)] rfl rfl ⟨⟨rfl,rfl,rfl⟩,trivial⟩ (fun ext=>TL.move hF rfl rfl TL.fin) ?_
    refine DR.stepV [_,_,_,_,_,_,_,_,_,_,_,_,_,_,_,_,_,_,_,_,_,_,_,_,_,_,_,_,_,_,_,_,_,_,_,_,_,_,_,_,_,_,_,_,_,_,_,_,_,_,_] rfl [(11,_,none),(126,_,some 49)] rfl rfl ⟨⟨rfl,by kernel_rfl⟩,⟨rfl,rfl,rfl⟩,trivial⟩ (fun ext=>TL.on rfl rfl rfl (by simp; omega) <| TL.move hF rfl rfl TL.fin) ?_
    refine DR.stepV [_,_,_,_,_,_,_,_,_,_,_,_,_,_,_,_,_,_,_,_,_,_,_,_,_,_,_,_,_,_,_,_,_,_,_,_,_,_,_,_,_,_,_,_,_,_,_,_,_,_,_,_] rfl [(127,_,some 50),(126,_,some 49)] rfl rfl ⟨⟨rfl,rfl,rfl⟩,⟨rfl,rfl,rfl⟩,trivial⟩ (fun ext=>TL.on rfl rfl rfl (by simp; omega) <| TL.bin hF rfl rfl rfl rfl TL.fin) ?_
    refine DR.stepV [_,_,_,_,_,_,_,_,_,_,_,_,_,_,_,_,_,_,_,_,_,_,_,_,_,_,_,_,_,_,_,_,_,_,_,_,_,_,_,_,_,_,_,_,_,_,_,_,_,_,_,_,_] rfl [(128,_,some 51),(126,_,some 49)] rfl rfl ⟨⟨rfl,rfl,rfl⟩,⟨rfl,rfl,rfl⟩,trivial⟩ (fun ext=>TL.on rfl rfl rfl (by simp; omega) <| TL.move hF rfl rfl TL.fin) ?_
    refine DR.stepV [_,_,_,_,_,_,_,_,_,_,_,_,_,_,_,_,_,_,_,_,_,_,_,_,_,_,_,_,_,_,_,_,_,_,_,_,_,_,_,_,_,_,_,_,_,_,_,_,_,_,_,_,_,_] rfl [(8,_,none),(129,_,some 52)] rfl rfl ⟨⟨rfl,by kernel_rfl⟩,⟨rfl,rfl,rfl⟩,trivial⟩ (fun ext=>TL.off hF rfl rfl rfl (by simp; omega) rfl TL.fin) ?_
    refine DR.stepV [_,_,_,_,_,_,_,_,_,_,_,_,_,_,_,_,_,_,_,_,_,_,_,_,_,_,_,_,_,_,_,_,_,_,_,_,_,_,_,_,_,_,_,_,_,_,_,_,_,_,_,_,_,_,_] rfl [(11,_,none),(129,_,some 52)] rfl rfl ⟨⟨rfl,by kernel_rfl⟩,⟨rfl,rfl,rfl⟩,trivial⟩ (fun ext=>TL.off hF rfl rfl rfl (by simp; omega) rfl TL.fin) ?_
    refine DR.stepV [_,_,_,_,_,_,_,_,_,_,_,_,_,_,_,_,_,_,_,_,_,_,_,_,_,_,_,_,_,_,_,_,_,_,_,_,_,_,_,_,_,_,_,_,_,_,_,_,_,_,_,_,_,_,_,_] rfl [(130,_,some 53),(131,_,some 54),(129,_,some 52)] rfl rfl ⟨⟨rfl,rfl,rfl⟩,⟨rfl,rfl,rfl⟩,⟨rfl,rfl,rfl⟩,trivial⟩ (fun ext=>TL.off hF rfl rfl rfl (by simp; omega) rfl TL.fin) ?_
    refine DR.stepV [_,_,_,_,_,_,_,_,_,_,_,_,_,_,_,_,_,_,_,_,_,_,_,_,_,_,_,_,_,_,_,_,_,_,_,_,_,_,_,_,_,_,_,_,_,_,_,_,_,_,_,_,_,_,_,_,_] rfl [(132,_,some 55),(129,_,some 52)] rfl rfl ⟨⟨rfl,rfl,rfl⟩,⟨rfl,rfl,rfl⟩,trivial⟩ (fun ext=>TL.off hF rfl rfl rfl (by simp; omega) rfl TL.fin) ?_
    refine DR.stepV [_,_,_,_,_,_,_,_,_,_,_,_,_,_,_,_,_,_,_,_,_,_,_,_,_,_,_,_,_,_,_,_,_,_,_,_,_,_,_,_,_,_,_,_,_,_,_,_,_,_,_,_,_,_,_,_,_,_] rfl [(133,_,some 56),(129,_,some 52)] rfl rfl ⟨⟨rfl,rfl,rfl⟩,⟨rfl,rfl,rfl⟩,trivial⟩ (fun ext=>TL.off hF rfl rfl rfl (by simp; omega) rfl TL.fin) ?_
    refine DR.stepV [_,_,_,_,_,_,_,_,_,_,_,_,_,_,_,_,_,_,_,_,_,_,_,_,_,_,_,_,_,_,_,_,_,_,_,_,_,_,_,_,_,_,_,_,_,_,_,_,_,_,_,_,_,_,_,_,_,_,_] rfl [(8,_,none),(129,_,some 52)] rfl rfl ⟨⟨rfl,by kernel_rfl⟩,⟨rfl,rfl,rfl⟩,trivial⟩ (fun ext=>TL.off hF rfl rfl rfl (by simp; omega) rfl TL.fin) ?_
    refine DR.stepV [_,_,_,_,_,_,_,_,_,_,_,_,_,_,_,_,_,_,_,_,_,_,_,_,_,_,_,_,_,_,_,_,_,_,_,_,_,_,_,_,_,_,_,_,_,_,_,_,_,_,_,_,_,_,_,_,_,_,_,_] rfl [(11,_,none),(129,_,some 52)] rfl rfl ⟨⟨rfl,by kernel_rfl⟩,⟨rfl,rfl,rfl⟩,trivial⟩ (fun ext=>TL.off hF rfl rfl rfl (by simp; omega) rfl TL.fin) ?_
    refine DR.stepV [_,_,_,_,_,_,_,_,_,_,_,_,_,_,_,_,_,_,_,_,_,_,_,_,_,_,_,_,_,_,_,_,_,_,_,_,_,_,_,_,_,_,_,_,_,_,_,_,_,_,_,_,_,_,_,_,_,_,_,_,_] rfl [(136,_,some 59),(129,_,some 52)] rfl rfl ⟨⟨rfl,rfl,rfl⟩,⟨rfl,rfl,rfl⟩,trivial⟩ (fun ext=>TL.off hF rfl rfl rfl (by simp; omega) rfl TL.fin) ?_
    refine DR.stepV [_,_,_,_,_,_,_,_,_,_,_,_,_,_,_,_,_,_,_,_,_,_,_,_,_,_,_,_,_,_,_,_,_,_,_,_,_,_,_,_,_,_,_,_,_,_,_,_,_,_,_,_,_,_,_,_,_,_,_,_,_,_] rfl [(135,_,some 58),(137,_,some 60),(129,_,some 52)] rfl rfl ⟨⟨rfl,rfl,rfl⟩,⟨rfl,rfl,rfl⟩,⟨rfl,rfl,rfl⟩,trivial⟩ (fun ext=>TL.off hF rfl rfl rfl (by simp; omega) rfl TL.fin) ?_
    refine DR.stepV [_,_,_,_,_,_,_,_,_,_,_,_,_,_,_,_,_,_,_,_,_,_,_,_,_,_,_,_,_,_,_,_,_,_,_,_,_,_,_,_,_,_,_,_,_,_,_,_,_,_,_,_,_,_,_,_,_,_,_,_,_,_,_] rfl [(138,_,some 61),(129,_,some 52)] rfl rfl ⟨⟨rfl,rfl,rfl⟩,⟨rfl,rfl,rfl⟩,trivial⟩ (fun ext=>TL.off hF rfl rfl rfl (by simp; omega) rfl TL.fin) ?_
    refine DR.stepV [_,_,_,_,_,_,_,_,_,_,_,_,_,_,_,_,_,_,_,_,_,_,_,_,_,_,_,_,_,_,_,_,_,_,_,_,_,_,_,_,_,_,_,_,_,_,_,_,_,_,_,_,_,_,_,_,_,_,_,_,_,_,_,_] rfl [(139,_,some 62),(129,_,some 52)] rfl rfl ⟨⟨rfl,rfl,rfl⟩,⟨rfl,rfl,rfl⟩,trivial⟩ (fun ext=>TL.off hF rfl rfl rfl (by simp; omega) rfl TL.fin) ?_
    refine DR.stepV [_,_,_,_,_,_,_,_,_,_,_,_,_,_,_,_,_,_,_,_,_,_,_,_,_,_,_,_,_,_,_,_,_,_,_,_,_,_,_,_,_,_,_,_,_,_,_,_,_,_,_,_,_,_,_,_,_,_,_,_,_,_,_,_,_] rfl [(7,_,none),(129,_,some 52)] rfl rfl ⟨⟨rfl,by kernel_rfl⟩,⟨rfl,rfl,rfl⟩,trivial⟩ (fun ext=>TL.off hF rfl rfl rfl (by simp; omega) rfl TL.fin) ?_
    refine DR.stepV [_,_,_,_,_,_,_,_,_,_,_,_,_,_,_,_,_,_,_,_,_,_,_,_,_,_,_,_,_,_,_,_,_,_,_,_,_,_,_,_,_,_,_,_,_,_,_,_,_,_,_,_,_,_,_,_,_,_,_,_,_,_,_,_,_,_] rfl [(141,_,some 64),(129,_,some 52)] rfl rfl ⟨⟨rfl,rfl,rfl⟩,⟨rfl,rfl,rfl⟩,trivial⟩ (fun ext=>TL.off hF rfl rfl rfl (by simp; omega) rfl TL.fin) ?_
    refine DR.stepV [_,_,_,_,_,_,_,_,_,_,_,_,_,_,_,_,_,_,_,_,_,_,_,_,_,_,_,_,_,_,_,_,_,_,_,_,_,_,_,_,_,_,_,_,_,_,_,_,_,_,_,_,_,_,_,_,_,_,_,_,_,_,_,_,_,_,_] rfl [(140,_,some 63),(142,_,some 65),(129,_,some 52)] rfl rfl ⟨⟨rfl,rfl,rfl⟩,⟨rfl,rfl,rfl⟩,⟨rfl,rfl,rfl⟩,trivial⟩ (fun ext=>TL.off hF rfl rfl rfl (by simp; omega) rfl TL.fin) ?_
    refine DR.done [(143,_),(142,_),(141,_),(140,_),(139,_),(138,_),(137,_),(136,_),(135,_),(134,_),(133,_),(132,_),(131,_),(130,_),(129,_),(128,_),(127,_),(126,_),(125,_),(124,_),(123,_),(122,_),(121,_),(120,_),(119,_),(118,_),(117,_),(116,_),(115,_),(114,_),(113,_),(112,_),(111,_),(110,_),(109,_),(108,_),(107,_),(106,_),(105,_),(104,_),(103,_),(102,_),(101,_),(100,_),(99,_),(98,_),(97,_),(96,_),(95,_),(94,_),(93,_),(92,_),(91,_),(90,_),(89,_),(88,_),(87,_),(86,_),(85,_),(84,_),(83,_),(82,_),(81,_),(80,_),(79,_),(78,_),(77,_)] [_,_,_] mixed (by kernel_rfl) (by kernel_rfl) (by kernel_rfl) rfl rfl ?_
    refine TL.off hF rfl rfl rfl (by simp; omega) rfl ?_
    refine TL.on rfl rfl rfl (by simp; omega) ?_
    refine TL.pickF hF rfl (by simp; omega) rfl rfl ?_
    refine TL.pickF hF rfl (by simp; omega) rfl rfl ?_
    refine TL.nil ?_
    refine TQ.then_n ?_
    refine T.cond_f rfl rfl ?_
    refine T.skip ?_
    refine TQ.block_n ?_
    refine TQ.then_n ?_
    refine T.region ?_
    refine TL.move hF rfl rfl ?_
    refine TL.add hF rfl rfl (by omega) (by omega) rfl ?_
    refine TL.assign hF rfl rfl ?_
    refine TL.nil ?_
    exact TQ.round (i+1) (by omega) (by omega) ⟨rfl,rfl,rfl,rfl,rfl,trivial⟩ rfl
  ·refine T.exit ?_
   refine TQ.then_x ?_
   refine TQ.then_x ?_
   refine TQ.block_x ?_
   refine TQ.then_n ?_
   refine T.seq ?_
   refine T.region ?_
   refine TL.call hF (windowed_law hT) rfl rfl ?_
   rintro _ _ rfl
   refine TL.assign hF rfl rfl ?_
   refine TL.nil ?_
   refine TQ.then_n ?_
   refine T.ret ?_
   exact TQ.retsF [6] _ hb rfl rfl rfl (fun _=>rfl)
end Go.Proofs.YtbajelldegijkaaDoor
namespace Go.Proofs.YtbajelldegijkaaDoor
open Go.Sl Go.ChangeShapes Go.WideShapes Go.ChangeAt Go.RowKit
set_option maxRecDepth 100000 in
theorem windowTimes_lifted (os : Os) (started : os.Started) (H : Type) (enc : TypeId × Value → H) :
    ReturnsInHanded {} Tryd.checked os 8 .any (fun w args=>(Rows.windowTimesSpec.pre enc Tryd.prog Tryd.f8 [] false w args∧laidMetH Tryd.prog laidL w)∧sizedMet enc Tryd.prog Tryd.f8 (OpenSpec.ofChange Rows.windowTimesSpec) false w args)
      (Rows.windowTimesSpec.post enc Tryd.prog Tryd.f8 false true false false):=by
  refine returnsInHanded_of_change_and (C:=Tryd.checked) (X:=fun w _=>laidMetH Tryd.prog laidL w) (fun _ _ _ hh h=>h.of_heap hh) Tryd.own started (by kernel_rfl) Tryd.func8
    (ChangeSpec.witness_shaped (enc:=enc) (C:=Tryd.checked) (os:=os) (X:=fun w _=>laidMetH Tryd.prog laidL w) false (World.doorLaid Tryd.prog 2000 os) #[.int .i64 0,.int .i64 0,.int .i64 0] 8 rfl (World.shaped_of_RefB (by kernel_rfl) (by kernel_rfl)) (by kernel_rfl) (by kernel_rfl) (by kernel_rfl) (door_met os _)) ?_
  intro W base args ds gs before hval0 hW _ hwt hL _
  have hval':∀ (j:Nat) t v,Tryd.f8.params[j]?=some t→args[j]?=some v→Value.okWide Tryd.prog W .any base t v:=hval0
  have hW':=hW
  obtain ⟨p,q,hA0,hV,rfl,hfz,hnd⟩:=hW
  have hA:DataW.TrodAll enc Tryd.prog W 0 (fun _=>true) true [3,3,3] args.toList ds p:=hA0
  obtain ⟨v0,v1,v2,d0,d1,d2,p0,p1,p2,rfl,rfl,rfl,h0,h1,h2⟩:=trodAll_three hA
  obtain ⟨z0,rfl,_,_,wz0⟩:=open_int u3 (hval' 0 3 v0 rfl rfl) h0
  have iz0:=wf_i64 wz0
  obtain ⟨z1,rfl,_,_,wz1⟩:=open_int u3 (hval' 1 3 v1 rfl rfl) h1
  have iz1:=wf_i64 wz1
  obtain ⟨z2,rfl,_,_,wz2⟩:=open_int u3 (hval' 2 3 v2 rfl rfl) h2
  have iz2:=wf_i64 wz2
  refine (calls_true (WindowTimes_fn (tabs_of_laid hL))).mono fun e W' ⟨he,hw⟩=>⟨_,he,?_⟩
  exact law_post (f:=Tryd.f8) Tryd.laidOut rfl 4 rfl u4 hW' rfl (by decide +kernel) hw
theorem windowTimes_said:Rows.WindowTimesSaid :=
  OpenClaim.holds_of_wide 8 Tryd.f8 rfl rfl rfl rfl rfl rfl rfl ⟨rfl,rfl,rfl,rfl,rfl⟩ rfl rfl rfl rfl rfl (by kernel_rfl) Tryd.func8 (by kernel_rfl)
    (of_decide_eq_true (by kernel_rfl)) (by unfold Func.isWrapper; first | (rw [if_pos (by decide +kernel)]; kernel_rfl) | (rw [if_neg (by decide +kernel)]; exact ⟨rfl,rfl⟩))
    (fun os started H enc _=>windowTimes_lifted os started H enc)
theorem windowTimes_holds:Rows.WindowTimesCardSaid :=
  Claim7.holds_tied_plain_at .later [] [.funcs] true (true, "edd8e981fe4d3e724f26595c5f9106e083d3da54a7e7e8d858f79c443b2db2cc") true
    windowTimes_said (fun _ h=>by cases h) (by kernel_rfl) (fun _ h=>by cases h) windowTimes_row_tie rfl ⟨rfl,rfl⟩ (by kernel_rfl) rfl
    (fun f fn hf hfn=>by
      obtain rfl : f = 8 := Option.some.inj ((show Tryd.prog.funcNamed "deltaworks/deltaworkslaw25.WindowTimes" = some 8 by kernel_rfl).symm.trans hf) |>.symm
      obtain rfl:fn=Tryd.f8:=(Option.some.inj (Tryd.func8.symm.trans hfn)).symm
      exact ⟨by kernel_rfl,fun j t ht=>by
        have ht2:(#[3,3,3]:Array TypeId)[j]?=some t:=ht
        have hm:t∈([3,3,3]:List TypeId):=by simpa using Array.mem_of_getElem? ht2
        have hall:(([3,3,3]:List TypeId).all fun u=>!Tryd.prog.wantsStandIn u)=true:=by kernel_rfl
        exact (show Tryd.prog.wantsStandIn t=false by simpa using List.all_eq_true.1 hall t hm)⟩)
    (by kernel_rfl)
#print axioms windowTimes_holds
end Go.Proofs.YtbajelldegijkaaDoor
