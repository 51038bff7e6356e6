/- The theorem of the stream, for every input. No condition. -/
import Derived.Test.YtbajelldegijkaaDoorVh
import Derived.Test.YtbajelldegijkaaDoorVi
import Derived.Test.YtbajelldegijkaaDoorCards
import Derived.Test.YtbajelldegijkaaDoorTie
/- The law of the stream. -/
namespace Go.Proofs.YtbajelldegijkaaDoor
open Go.Sl
variable {S:Nat→Prop} {w0:World} {η:Heap}
theorem had_askd {s:Wsp} {L:List Rw} (hq:Askd s L) {l:List Rw} (h:∀ r∈l,r∈L) (hl:l.length≤300):Askd s (hadS s l)∧(hadS s l).length≤l.length:=by
 obtain ⟨h1,h2,_⟩:=runS_ok hq l.length l rfl h hl
 exact ⟨hq.sub (fun x hx=>h x (h2 x hx)) (by omega),h1⟩
theorem stream_all {s:Wsp} {L:List Rw} (hq:Askd s L):(toldS s L++leftS s L).Nodup∧(toldS s L++leftS s L).Perm (allS s (hadS s L)):=by
 have hh:=(had_askd hq (fun r h=>h) hq.len).1
 obtain ⟨h1,h2⟩:=told_ok hq.w L.length L rfl
 have h3:=up_nodup oLt_irr (all_up hq.w (hadS s L))
 have hl:∀ x,x∈leftS s L↔x∈allS s (hadS s L)∧markS s L<x.to:=fun x=>by
  unfold leftS
  rw [List.mem_filter,decide_eq_true_eq]; rfl
 have hn:(toldS s L++leftS s L).Nodup:=List.nodup_append.2 ⟨h1,by unfold leftS; exact h3.filter _,fun a ha b hb e=>by
  subst e
  have q1:=(h2 a).1 ha
  have q2:=(hl a).1 hb
  omega⟩
 refine ⟨hn,(List.perm_ext_iff_of_nodup hn h3).2 fun x=>?_⟩
 rw [List.mem_append,h2,hl]
 constructor
 ·rintro (h | h)
  ·exact h.1
  ·exact h.1
 ·intro hx
  obtain ⟨r,hr,hin⟩:=all_some hq.w hx
  unfold inX at hin
  rw [inW_iff] at hin
  have:=(hh.row hr).1
  rcases Int.lt_or_le (markS s L) x.to with h | h
  ·exact .inr ⟨hx,h⟩
  ·exact .inl ⟨hx,by simp only at hin; omega,h⟩
theorem told_len {s:Wsp} {L:List Rw} (hq:Askd s L) {l:List Rw} (h:∀ r∈l,r∈L) (hl:l.length≤300):(toldS s l).length≤314573100:=by
 have hq2:=hq.sub h hl
 have h1:=(stream_all hq2).2.length_eq
 have h2:=all_len (had_askd hq h hl).1
 rw [List.length_append] at h1
 omega
theorem mark_rng {s:Wsp} {L:List Rw} (hq:Askd s L) {l:List Rw} (h:∀ r∈l,r∈L):0≤markS s l∧markS s l≤1048576:=by
 have hs:=hq.size
 rw [mark_top (by omega) l (fun r hr=>((hq.row (h r hr)).1).1)]
 have:=topT_le (l:=l) (b:=1048576) (by omega) (fun r hr=>((hq.row (h r hr)).1).2)
 omega
structure SI where
 i:Nat
 ka:Option Addr
 kc:Nat
 kg:Seg
 ta:Option Addr
 tc:Nat
 tg:Seg
set_option maxHeartbeats 8000000 in
theorem WindowStream_fn {n : N5} {a : Option Addr} {l : List Int} {c : Nat} (hT : Tabs S w0) (hx : Row S w0 [] a (ints l)) (hl : l.length < 9223372036854775808) :
  Rt Tryd.prog 6 [n5V n,.slice a l.length c].toArray S w0 η (fun v _=>v = .bool true):=by
 have hF:=open_wide
 refine Rt.of (fn:=Tryd.f6) Tryd.func6 rfl rfl ?_
 refine T.seq ?_
 refine T.region ?_
 refine TL.box hF rfl rfl (fun b2=>?_)
 refine TL.assign hF rfl rfl ?_
 refine TL.nil ?_
 refine TQ.then_n ?_
 refine T.seq ?_
 refine T.region ?_
 have hb:=Back.refl S w0
 refine TL.loadA hF (n5C n) rfl rfl (own_list (i:=0) (cs:=n5C n) rfl) rfl ?_
 refine TL.callV hF (cut_fn n) rfl rfl ?_
 refine TL.move hF rfl rfl ?_
 refine TL.call hF (streamL_fn hx hl) rfl rfl ?_
 rintro _ _ ⟨ra,rc,rg,rfl,hro,rfl⟩
 obtain ⟨s,hse⟩:∃ s,s=cutW n:=⟨_,rfl⟩
 obtain ⟨L,hLe⟩:∃ L,L=rowsOf l:=⟨_,rfl⟩
 have hq:Askd s L:=by rw [hse,hLe]; exact rowsOf_askd (cutW_ok n) (fun r h=>h) (by have:=rowsOf_len l; omega)
 have hL30:L.length≤30:=by rw [hLe]; exact rowsOf_len l
 rw [← hse,← hLe]
 rw [← hLe] at hro
 have hsz:=hq.size
 have hlr:RRow S w0 [rg] ra L:=hro.row (by simp)
 refine TL.freeze ([rg]) rfl (fun S1 w1 hz1=>?_)
 replace hb:=hb.frz hz1
 replace hT:=hT.old hz1
 replace hlr:=hlr.frz hz1
 refine TL.hsub η (List.sublist_cons_self _ _) ?_
 refine TL.alloc hF rfl (fun b5=>?_)
 refine TL.storeAs hF (wsC s) (wsC s) 0 (cs:=[.int .i64 0,.int .i64 0,.int .i64 0,.int .i64 0,.int .i64 0]) rfl rfl rfl rfl (wsC1 _) (Nat.le_refl 5) rfl ?_
 refine TL.assign hF rfl rfl ?_
 refine TL.nil ?_
 refine TQ.then_n ?_
 refine T.seq ?_
 refine T.region ?_
 refine TL.loadA hF (wsC s) rfl rfl (own_listM (b:=b5) (cs:=wsC s) (e:=23) (fz:=(0,0)) (by simp)) rfl ?_
 refine TL.move hF rfl rfl ?_
 refine TL.call hF (Play_fn hT s hlr (by omega)) rfl rfl ?_
 rintro _ _ ⟨la,lc,xs,oa,oc,segs,rfl,hxs,h1,h2,rfl⟩
 have hpl:playS s L=(stpsS s L,leftS s L,0):=by unfold playS; rw [if_pos hq.asked]; rfl
 rw [hpl] at hxs h2 ⊢
 dsimp only at hxs h2 ⊢
 refine TL.freeze (segs) rfl (fun S2 w2 hz2=>?_)
 replace hb:=hb.frz hz2
 replace hT:=hT.old hz2
 replace hlr:=hlr.old hz2
 replace h1:=h1.frz hz2
 replace h2:=h2.frz hz2
 have hxl:xs.length=L.length:=by rw [← List.length_map (f:=SH.st),hxs,stps_len]
 have hxst:∀ (i:Nat) (h:i<xs.length),xs[i].st=stpAt s L i:=fun i h=>by
  have e:(xs.map (·.st))[i]?=(stpsS s L)[i]?:=by rw [hxs]
  have hi2:i<(stpsS s L).length:=by rw [stps_len]; omega
  rw [List.getElem?_map,List.getElem?_eq_getElem h,List.getElem?_eq_getElem hi2,Option.map_some,stps_get hi2] at e
  exact Option.some.inj e
 refine TL.move hF rfl rfl ?_
 refine TL.extract hF rfl rfl rfl ?_
 refine TL.extract hF rfl rfl rfl ?_
 refine TL.extract hF rfl rfl rfl ?_
 refine TL.assign hF rfl rfl ?_
 refine TL.assign hF rfl rfl ?_
 refine TL.assign hF rfl rfl ?_
 refine TL.nil ?_
 refine TQ.then_n ?_
 refine T.seq ?_
 refine T.seq ?_
 refine T.region ?_
 refine TL.move hF rfl rfl ?_
 refine TL.bin hF rfl rfl rfl rfl ?_
 refine TL.move hF rfl rfl ?_
 refine TL.on rfl rfl rfl (by decide) ?_
 refine TL.move hF rfl rfl ?_
 refine TL.on rfl rfl rfl (by decide) ?_
 refine TL.len hF rfl rfl ?_
 refine TL.on rfl rfl rfl (by decide) ?_
 refine TL.move hF rfl rfl ?_
 refine TL.on rfl rfl rfl (by decide) ?_
 refine TL.len hF rfl rfl ?_
 refine TL.on rfl rfl rfl (by decide) ?_
 refine TL.bin hF rfl rfl rfl rfl ?_
 refine TL.pickF hF rfl (by decide) rfl rfl ?_
 refine TL.nil ?_
 refine TQ.then_n ?_
 refine T.cond_f rfl (by rw [hxl]; simp) ?_
 refine T.skip ?_
 refine TQ.then_n ?_
 refine T.seq ?_
 refine T.region ?_
 refine TL.buildSlice hF rfl (cs:=#[]) (e:=57) (fun w=>by kernel_rfl) rfl (fun b38=>?_)
 refine TL.buildSlice hF rfl (cs:=#[]) (e:=59) (fun w=>by kernel_rfl) rfl (fun b39=>?_)
 refine TL.assign hF rfl rfl ?_
 refine TL.assign hF rfl rfl ?_
 refine TL.assign hF rfl rfl ?_
 refine TL.nil ?_
 refine TQ.then_n ?_
 refine T.seq ?_
 refine T.seq ?_
 refine T.region ?_
 refine TL.assign hF rfl rfl ?_
 refine TL.nil ?_
 refine TQ.then_n ?_
 refine T.block ?_
 refine T.heap (η':=[(b39,Obj.cells #[] 59 (0,0))]::[(b38,Obj.cells #[] 57 (0,0))]::[(b5,Obj.cells (wsC s).toArray 23 (0,0))]::η) rfl ?_
 refine T.loop (ι:=SI) (fun z=>z.i≤L.length∧OSl 57 3 (.slice z.ka (hadS s (L.take z.i)).length z.kc) (hadS s (L.take z.i)).length ((hadS s (L.take z.i)).flatMap rwC) z.kg∧OSl 59 4 (.slice z.ta (toldS s (L.take z.i)).length z.tc) (toldS s (L.take z.i)).length ((toldS s (L.take z.i)).flatMap otC) z.tg) (fun z=>[(4,.bool false),(5,ptr b5),(6,.slice ra L.length rc),(7,.slice la xs.length lc),(8,.slice oa (leftS s L).length oc),(10,.slice z.ka (hadS s (L.take z.i)).length z.kc),(11,.slice z.ta (toldS s (L.take z.i)).length z.tc),(12,.int .i64 (markS s (L.take z.i))),(13,.int .i64 (z.i:Int))]) (fun z=>z.tg::z.kg::[(b5,Obj.cells (wsC s).toArray 23 (0,0))]::η) (fun z=>L.length - z.i) ⟨0,some ⟨b38,0,none⟩,0,[(b38,Obj.cells #[] 57 (0,0))],some ⟨b39,0,none⟩,0,[(b39,Obj.cells #[] 59 (0,0))]⟩ ⟨Nat.zero_le _,osl_empty,osl_empty⟩ ⟨rfl,rfl,rfl,rfl,rfl,rfl,rfl,rfl,rfl,trivial⟩ rfl ?_
 rintro ⟨i,ka,kc,kg,ta,tc,tg⟩ ⟨hi,hk,ht⟩
 dsimp only at hi hk ht
 have hsub:∀ r∈L.take i,r∈L:=fun r h=>List.mem_of_mem_take h
 have htl:(L.take i).length≤300:=by rw [List.length_take]; omega
 have hmk:=mark_rng hq hsub
 have hkl:=(had_askd hq hsub htl).2
 rw [List.length_take] at hkl
 have htb:=told_len hq hsub htl
 refine T.seq ?_
 refine T.seq ?_
 refine T.region ?_
 refine TL.move hF rfl rfl ?_
 refine TL.move hF rfl rfl ?_
 refine TL.len hF rfl rfl ?_
 refine TL.bin hF rfl rfl rfl rfl ?_
 refine TL.nil ?_
 refine TQ.then_n ?_
 first | refine T.cond_d rfl (fun ht43=>?_) (fun ht43=>?_) | refine T.cond _ rfl (fun ht43=>?_) (fun ht43=>?_)
 ·refine T.skip ?_
  refine TQ.then_n ?_
  refine T.seq ?_
  refine T.block ?_
  refine T.seq ?_
  refine T.seq ?_
  have hil:i<L.length:=by have h:(i:Int)<(L.length:Int):=ht43; omega
  have hix:i<xs.length:=by omega
  have hd:L.getD i default=L[i]:=by rw [List.getD_eq_getElem?_getD,List.getElem?_eq_getElem hil]; rfl
  have hst:=hxst i hix
  have hlt:xs[i].st.late=decide (L[i].time<markS s (L.take i)):=by rw [hst,late_at,hd]
  have htk:L.take (i+1)=L.take i++[L[i]]:=List.take_succ_eq_append_getElem hil
  have hti:=(hq.row (List.getElem_mem hil)).1
  by_cases hlate:L[i].time<markS s (L.take i)
  ·refine T.draw ?_
   refine DR.stepV [_] rfl [(7,_,none)] rfl rfl ⟨⟨rfl,by kernel_rfl⟩,trivial⟩ (fun ext=>TL.move hF rfl rfl TL.fin) ?_
   refine DR.stepV [_,_] rfl [(13,_,none)] rfl rfl ⟨⟨rfl,by kernel_rfl⟩,trivial⟩ (fun ext=>TL.move hF rfl rfl TL.fin) ?_
   refine DR.stepV [_,_,_] rfl [(46,_,some 0),(47,_,some 1)] rfl rfl ⟨⟨rfl,rfl,rfl⟩,⟨rfl,rfl,rfl⟩,trivial⟩ (fun ext=>TL.indexAddr hF rfl rfl (h1.row.tad shC_len (by decide) (i:=i) hix) (by omega) (by omega) rfl TL.fin) ?_
   refine DR.stepV [_,_,_,_] rfl [(48,_,some 2)] rfl rfl ⟨⟨rfl,rfl,rfl⟩,trivial⟩ (fun ext=>TL.fieldAddr hF rfl rfl TL.fin) ?_
   refine DR.stepV [_,_,_,_,_] rfl [(49,_,some 3)] rfl rfl ⟨⟨rfl,rfl,rfl⟩,trivial⟩ (fun ext=>TL.load hF rfl ((h1.up (η':=tg::kg::[(b5,Obj.cells (wsC s).toArray 23 (0,0))]::η) (by simp)).row.tabA shC_len (i:=i) hix 1 _ rfl) rfl TL.fin) ?_
   refine DR.stepV [_,_,_,_,_,_] rfl [(6,_,none)] rfl rfl ⟨⟨rfl,by kernel_rfl⟩,trivial⟩ (fun ext=>TL.move hF rfl rfl TL.fin) ?_
   refine DR.stepV [_,_,_,_,_,_,_] rfl [(13,_,none)] rfl rfl ⟨⟨rfl,by kernel_rfl⟩,trivial⟩ (fun ext=>TL.move hF rfl rfl TL.fin) ?_
   refine DR.stepV [_,_,_,_,_,_,_,_] rfl [(51,_,some 5),(52,_,some 6)] rfl rfl ⟨⟨rfl,rfl,rfl⟩,⟨rfl,rfl,rfl⟩,trivial⟩ (fun ext=>TL.indexAddr hF rfl rfl (rr_ad hlr hil) (by omega) (by omega) rfl TL.fin) ?_
   refine DR.stepV [_,_,_,_,_,_,_,_,_] rfl [(53,_,some 7)] rfl rfl ⟨⟨rfl,rfl,rfl⟩,trivial⟩ (fun ext=>TL.fieldAddr hF rfl rfl TL.fin) ?_
   refine DR.stepV [_,_,_,_,_,_,_,_,_,_] rfl [(54,_,some 8)] rfl rfl ⟨⟨rfl,rfl,rfl⟩,trivial⟩ (fun ext=>TL.load hF rfl (rr_at (hlr.up (by simp)) hil 0 _ rfl) rfl TL.fin) ?_
   refine DR.stepV [_,_,_,_,_,_,_,_,_,_,_] rfl [(12,_,none)] rfl rfl ⟨⟨rfl,by kernel_rfl⟩,trivial⟩ (fun ext=>TL.move hF rfl rfl TL.fin) ?_
   refine DR.stepV [_,_,_,_,_,_,_,_,_,_,_,_] rfl [(55,_,some 9),(56,_,some 10)] rfl rfl ⟨⟨rfl,rfl,rfl⟩,⟨rfl,rfl,rfl⟩,trivial⟩ (fun ext=>TL.bin hF rfl rfl rfl rfl TL.fin) ?_
   refine DR.stepV [_,_,_,_,_,_,_,_,_,_,_,_,_] rfl [(50,_,some 4),(57,_,some 11)] rfl rfl ⟨⟨rfl,rfl,rfl⟩,⟨rfl,rfl,rfl⟩,trivial⟩ (fun ext=>TL.neqB hF rfl rfl rfl TL.fin) ?_
   refine DR.stepV [_,_,_,_,_,_,_,_,_,_,_,_,_,_] rfl [(58,_,some 12)] rfl rfl ⟨⟨rfl,rfl,rfl⟩,trivial⟩ (fun ext=>TL.move hF rfl rfl TL.fin) ?_
   refine DR.stepV [_,_,_,_,_,_,_,_,_,_,_,_,_,_,_] rfl [(7,_,none),(59,_,some 13)] rfl rfl ⟨⟨rfl,by kernel_rfl⟩,⟨rfl,rfl,rfl⟩,trivial⟩ (fun ext=>TL.on rfl rfl rfl (by rw [hlt]; simp) <| TL.move hF rfl rfl TL.fin) ?_
   refine DR.stepV [_,_,_,_,_,_,_,_,_,_,_,_,_,_,_,_] rfl [(13,_,none),(59,_,some 13)] rfl rfl ⟨⟨rfl,by kernel_rfl⟩,⟨rfl,rfl,rfl⟩,trivial⟩ (fun ext=>TL.on rfl rfl rfl (by rw [hlt]; simp) <| TL.move hF rfl rfl TL.fin) ?_
   refine DR.stepV [_,_,_,_,_,_,_,_,_,_,_,_,_,_,_,_,_] rfl [(60,_,some 14),(61,_,some 15),(59,_,some 13)] rfl rfl ⟨⟨rfl,rfl,rfl⟩,⟨rfl,rfl,rfl⟩,⟨rfl,rfl,rfl⟩,trivial⟩ (fun ext=>TL.on rfl rfl rfl (by rw [hlt]; simp) <| TL.indexAddr hF rfl rfl (h1.row.tad shC_len (by decide) (i:=i) hix) (by omega) (by omega) rfl TL.fin) ?_
   refine DR.stepV [_,_,_,_,_,_,_,_,_,_,_,_,_,_,_,_,_,_] rfl [(62,_,some 16),(59,_,some 13)] rfl rfl ⟨⟨rfl,rfl,rfl⟩,⟨rfl,rfl,rfl⟩,trivial⟩ (fun ext=>TL.on rfl rfl rfl (by rw [hlt]; simp) <| TL.fieldAddr hF rfl rfl TL.fin) ?_
   refine DR.stepV [_,_,_,_,_,_,_,_,_,_,_,_,_,_,_,_,_,_,_] rfl [(63,_,some 17),(59,_,some 13)] rfl rfl ⟨⟨rfl,rfl,rfl⟩,⟨rfl,rfl,rfl⟩,trivial⟩ (fun ext=>TL.on rfl rfl rfl (by rw [hlt]; simp) <| TL.load hF rfl ((h1.up (η':=tg::kg::[(b5,Obj.cells (wsC s).toArray 23 (0,0))]::η) (by simp)).row.tabA shC_len (i:=i) hix 1 _ rfl) rfl TL.fin) ?_
   refine DR.stepV [_,_,_,_,_,_,_,_,_,_,_,_,_,_,_,_,_,_,_,_] rfl [(64,_,some 18),(59,_,some 13)] rfl rfl ⟨⟨rfl,rfl,rfl⟩,⟨rfl,rfl,rfl⟩,trivial⟩ (fun ext=>TL.on rfl rfl rfl (by rw [hlt]; simp) <| TL.move hF rfl rfl TL.fin) ?_
   refine DR.stepV [_,_,_,_,_,_,_,_,_,_,_,_,_,_,_,_,_,_,_,_,_] rfl [(7,_,none),(65,_,some 19)] rfl rfl ⟨⟨rfl,by kernel_rfl⟩,⟨rfl,rfl,rfl⟩,trivial⟩ (fun ext=>TL.on rfl rfl rfl (by rw [hlt]; exact decide_eq_true hlate) <| TL.move hF rfl rfl TL.fin) ?_
   refine DR.stepV [_,_,_,_,_,_,_,_,_,_,_,_,_,_,_,_,_,_,_,_,_,_] rfl [(13,_,none),(65,_,some 19)] rfl rfl ⟨⟨rfl,by kernel_rfl⟩,⟨rfl,rfl,rfl⟩,trivial⟩ (fun ext=>TL.on rfl rfl rfl (by rw [hlt]; exact decide_eq_true hlate) <| TL.move hF rfl rfl TL.fin) ?_
   refine DR.done [(67,_),(66,_),(65,_),(64,_),(63,_),(62,_),(61,_),(60,_),(59,_),(58,_),(57,_),(56,_),(55,_),(54,_),(53,_),(52,_),(51,_),(50,_),(49,_),(48,_),(47,_),(46,_)] [_,_,_,_,_,_,_] mixed (by kernel_rfl) (by kernel_rfl) (by kernel_rfl) rfl rfl ?_
   refine TL.on rfl rfl rfl (by rw [hlt]; exact decide_eq_true hlate) ?_
   refine TL.indexAddr hF rfl rfl (h1.row.tad shC_len (by decide) (i:=i) hix) (by omega) (by omega) rfl ?_
   refine TL.on rfl rfl rfl (by rw [hlt]; exact decide_eq_true hlate) ?_
   refine TL.fieldAddr hF rfl rfl ?_
   refine TL.on rfl rfl rfl (by rw [hlt]; exact decide_eq_true hlate) ?_
   refine TL.load hF rfl ((h1.up (η':=tg::kg::[(b5,Obj.cells (wsC s).toArray 23 (0,0))]::η) (by simp)).row.tabA shC_len (i:=i) hix 0 _ rfl) rfl ?_
   refine TL.on rfl rfl rfl (by rw [hlt]; exact decide_eq_true hlate) ?_
   refine TL.len hF rfl rfl ?_
   refine TL.on rfl rfl rfl (by rw [hlt]; exact decide_eq_true hlate) ?_
   refine TL.bin hF rfl rfl rfl rfl ?_
   refine TL.on rfl rfl rfl (by rw [hlt]; simp) ?_
   refine TL.pickT hF rfl (by rw [hlt]; exact decide_eq_true hlate) rfl rfl ?_
   refine TL.pickF hF rfl (by rw [hlt]; simp) rfl rfl ?_
   refine TL.nil ?_
   refine TQ.then_n ?_
   refine T.cond_f rfl (by rw [show xs[i].st.outs=[] by rw [hst]; unfold stpAt; rw [hd,if_pos hlate]]; simp) ?_
   refine T.skip ?_
   refine TQ.then_n ?_
   refine T.seq ?_
   refine T.seq ?_
   refine T.region ?_
   refine TL.move hF rfl rfl ?_
   refine TL.move hF rfl rfl ?_
   refine TL.indexAddr hF rfl rfl (h1.row.tad shC_len (by decide) (i:=i) hix) (by omega) (by omega) rfl ?_
   refine TL.fieldAddr hF rfl rfl ?_
   refine TL.load hF rfl ((h1.up (η':=tg::kg::[(b5,Obj.cells (wsC s).toArray 23 (0,0))]::η) (by simp)).row.tabA shC_len (i:=i) hix 1 _ rfl) rfl ?_
   refine TL.nil ?_
   refine TQ.then_n ?_
   refine T.cond_t rfl (by rw [hlt]; exact decide_eq_true hlate) ?_
   refine T.exit ?_
   refine TQ.then_x ?_
   refine TQ.block_x ?_
   refine TQ.then_n ?_
   refine T.region ?_
   refine TL.move hF rfl rfl ?_
   refine TL.add hF rfl rfl (by first | omega | (dsimp only; omega)) (by first | omega | (dsimp only; omega)) rfl ?_
   refine TL.assign hF rfl rfl ?_
   refine TL.nil ?_
   obtain ⟨_,e2,e3⟩:=run_late (s:=s) (l:=L.take i) (r:=L[i]) hlate
   have e1:=(run_late (s:=s) (l:=L.take i) (r:=L[i]) hlate).1
   rw [← htk] at e1 e2 e3
   have hte:(toldS s (L.take (i+1)))=(toldS s (L.take i)):=by unfold toldS; rw [e1,List.flatMap_append]; simp
   exact TQ.round ⟨i+1,ka,kc,kg,ta,tc,tg⟩ ⟨hil,by dsimp only; rw [e2]; exact hk,by dsimp only; rw [hte]; exact ht⟩ (by dsimp only; omega) ⟨rfl,rfl,rfl,rfl,rfl,by dsimp only; rw [e2]; rfl,by dsimp only; rw [hte]; rfl,by dsimp only; rw [e3]; rfl,rfl,trivial⟩ rfl
  ·refine T.draw ?_
   refine DR.stepV [_] rfl [(7,_,none)] rfl rfl ⟨⟨rfl,by kernel_rfl⟩,trivial⟩ (fun ext=>TL.move hF rfl rfl TL.fin) ?_
   refine DR.stepV [_,_] rfl [(13,_,none)] rfl rfl ⟨⟨rfl,by kernel_rfl⟩,trivial⟩ (fun ext=>TL.move hF rfl rfl TL.fin) ?_
   refine DR.stepV [_,_,_] rfl [(46,_,some 0),(47,_,some 1)] rfl rfl ⟨⟨rfl,rfl,rfl⟩,⟨rfl,rfl,rfl⟩,trivial⟩ (fun ext=>TL.indexAddr hF rfl rfl (h1.row.tad shC_len (by decide) (i:=i) hix) (by omega) (by omega) rfl TL.fin) ?_
   refine DR.stepV [_,_,_,_] rfl [(48,_,some 2)] rfl rfl ⟨⟨rfl,rfl,rfl⟩,trivial⟩ (fun ext=>TL.fieldAddr hF rfl rfl TL.fin) ?_
   refine DR.stepV [_,_,_,_,_] rfl [(49,_,some 3)] rfl rfl ⟨⟨rfl,rfl,rfl⟩,trivial⟩ (fun ext=>TL.load hF rfl ((h1.up (η':=tg::kg::[(b5,Obj.cells (wsC s).toArray 23 (0,0))]::η) (by simp)).row.tabA shC_len (i:=i) hix 1 _ rfl) rfl TL.fin) ?_
   refine DR.stepV [_,_,_,_,_,_] rfl [(6,_,none)] rfl rfl ⟨⟨rfl,by kernel_rfl⟩,trivial⟩ (fun ext=>TL.move hF rfl rfl TL.fin) ?_
   refine DR.stepV [_,_,_,_,_,_,_] rfl [(13,_,none)] rfl rfl ⟨⟨rfl,by kernel_rfl⟩,trivial⟩ (fun ext=>TL.move hF rfl rfl TL.fin) ?_
   refine DR.stepV [_,_,_,_,_,_,_,_] rfl [(51,_,some 5),(52,_,some 6)] rfl rfl ⟨⟨rfl,rfl,rfl⟩,⟨rfl,rfl,rfl⟩,trivial⟩ (fun ext=>TL.indexAddr hF rfl rfl (rr_ad hlr hil) (by omega) (by omega) rfl TL.fin) ?_
   refine DR.stepV [_,_,_,_,_,_,_,_,_] rfl [(53,_,some 7)] rfl rfl ⟨⟨rfl,rfl,rfl⟩,trivial⟩ (fun ext=>TL.fieldAddr hF rfl rfl TL.fin) ?_
   refine DR.stepV [_,_,_,_,_,_,_,_,_,_] rfl [(54,_,some 8)] rfl rfl ⟨⟨rfl,rfl,rfl⟩,trivial⟩ (fun ext=>TL.load hF rfl (rr_at (hlr.up (by simp)) hil 0 _ rfl) rfl TL.fin) ?_
   refine DR.stepV [_,_,_,_,_,_,_,_,_,_,_] rfl [(12,_,none)] rfl rfl ⟨⟨rfl,by kernel_rfl⟩,trivial⟩ (fun ext=>TL.move hF rfl rfl TL.fin) ?_
   refine DR.stepV [_,_,_,_,_,_,_,_,_,_,_,_] rfl [(55,_,some 9),(56,_,some 10)] rfl rfl ⟨⟨rfl,rfl,rfl⟩,⟨rfl,rfl,rfl⟩,trivial⟩ (fun ext=>TL.bin hF rfl rfl rfl rfl TL.fin) ?_
   refine DR.stepV [_,_,_,_,_,_,_,_,_,_,_,_,_] rfl [(50,_,some 4),(57,_,some 11)] rfl rfl ⟨⟨rfl,rfl,rfl⟩,⟨rfl,rfl,rfl⟩,trivial⟩ (fun ext=>TL.neqB hF rfl rfl rfl TL.fin) ?_
   refine DR.stepV [_,_,_,_,_,_,_,_,_,_,_,_,_,_] rfl [(58,_,some 12)] rfl rfl ⟨⟨rfl,rfl,rfl⟩,trivial⟩ (fun ext=>TL.move hF rfl rfl TL.fin) ?_
   refine DR.stepV [_,_,_,_,_,_,_,_,_,_,_,_,_,_,_] rfl [(7,_,none),(59,_,some 13)] rfl rfl ⟨⟨rfl,by kernel_rfl⟩,⟨rfl,rfl,rfl⟩,trivial⟩ (fun ext=>TL.on rfl rfl rfl (by rw [hlt]; simp) <| TL.move hF rfl rfl TL.fin) ?_
   refine DR.stepV [_,_,_,_,_,_,_,_,_,_,_,_,_,_,_,_] rfl [(13,_,none),(59,_,some 13)] rfl rfl ⟨⟨rfl,by kernel_rfl⟩,⟨rfl,rfl,rfl⟩,trivial⟩ (fun ext=>TL.on rfl rfl rfl (by rw [hlt]; simp) <| TL.move hF rfl rfl TL.fin) ?_
   refine DR.stepV [_,_,_,_,_,_,_,_,_,_,_,_,_,_,_,_,_] rfl [(60,_,some 14),(61,_,some 15),(59,_,some 13)] rfl rfl ⟨⟨rfl,rfl,rfl⟩,⟨rfl,rfl,rfl⟩,⟨rfl,rfl,rfl⟩,trivial⟩ (fun ext=>TL.on rfl rfl rfl (by rw [hlt]; simp) <| TL.indexAddr hF rfl rfl (h1.row.tad shC_len (by decide) (i:=i) hix) (by omega) (by omega) rfl TL.fin) ?_
   refine DR.stepV [_,_,_,_,_,_,_,_,_,_,_,_,_,_,_,_,_,_] rfl [(62,_,some 16),(59,_,some 13)] rfl rfl ⟨⟨rfl,rfl,rfl⟩,⟨rfl,rfl,rfl⟩,trivial⟩ (fun ext=>TL.on rfl rfl rfl (by rw [hlt]; simp) <| TL.fieldAddr hF rfl rfl TL.fin) ?_
   refine DR.stepV [_,_,_,_,_,_,_,_,_,_,_,_,_,_,_,_,_,_,_] rfl [(63,_,some 17),(59,_,some 13)] rfl rfl ⟨⟨rfl,rfl,rfl⟩,⟨rfl,rfl,rfl⟩,trivial⟩ (fun ext=>TL.on rfl rfl rfl (by rw [hlt]; simp) <| TL.load hF rfl ((h1.up (η':=tg::kg::[(b5,Obj.cells (wsC s).toArray 23 (0,0))]::η) (by simp)).row.tabA shC_len (i:=i) hix 1 _ rfl) rfl TL.fin) ?_
   refine DR.stepV [_,_,_,_,_,_,_,_,_,_,_,_,_,_,_,_,_,_,_,_] rfl [(64,_,some 18),(59,_,some 13)] rfl rfl ⟨⟨rfl,rfl,rfl⟩,⟨rfl,rfl,rfl⟩,trivial⟩ (fun ext=>TL.on rfl rfl rfl (by rw [hlt]; simp) <| TL.move hF rfl rfl TL.fin) ?_
   refine DR.stepV [_,_,_,_,_,_,_,_,_,_,_,_,_,_,_,_,_,_,_,_,_] rfl [(7,_,none),(65,_,some 19)] rfl rfl ⟨⟨rfl,by kernel_rfl⟩,⟨rfl,rfl,rfl⟩,trivial⟩ (fun ext=>TL.off hF rfl rfl rfl (by rw [hlt]; exact decide_eq_false hlate) rfl TL.fin) ?_
   refine DR.stepV [_,_,_,_,_,_,_,_,_,_,_,_,_,_,_,_,_,_,_,_,_,_] rfl [(13,_,none),(65,_,some 19)] rfl rfl ⟨⟨rfl,by kernel_rfl⟩,⟨rfl,rfl,rfl⟩,trivial⟩ (fun ext=>TL.off hF rfl rfl rfl (by rw [hlt]; exact decide_eq_false hlate) rfl TL.fin) ?_
   refine DR.done [(67,_),(66,_),(65,_),(64,_),(63,_),(62,_),(61,_),(60,_),(59,_),(58,_),(57,_),(56,_),(55,_),(54,_),(53,_),(52,_),(51,_),(50,_),(49,_),(48,_),(47,_),(46,_)] [_,_,_,_,_,_,_] mixed (by kernel_rfl) (by kernel_rfl) (by kernel_rfl) rfl rfl ?_
   refine TL.off hF rfl rfl rfl (by rw [hlt]; exact decide_eq_false hlate) rfl ?_
   refine TL.off hF rfl rfl rfl (by rw [hlt]; exact decide_eq_false hlate) rfl ?_
   refine TL.off hF rfl rfl rfl (by rw [hlt]; exact decide_eq_false hlate) rfl ?_
   refine TL.off hF rfl rfl rfl (by rw [hlt]; exact decide_eq_false hlate) rfl ?_
   refine TL.off hF rfl rfl rfl (by rw [hlt]; exact decide_eq_false hlate) rfl ?_
   refine TL.on rfl rfl rfl (by rw [hlt]; simp) ?_
   refine TL.pickF hF rfl (by rw [hlt]; exact decide_eq_false hlate) rfl rfl ?_
   refine TL.pickF hF rfl (by rw [hlt]; simp) rfl rfl ?_
   refine TL.nil ?_
   refine TQ.then_n ?_
   refine T.cond_f rfl rfl ?_
   refine T.skip ?_
   refine TQ.then_n ?_
   refine T.seq ?_
   refine T.seq ?_
   refine T.region ?_
   refine TL.move hF rfl rfl ?_
   refine TL.move hF rfl rfl ?_
   refine TL.indexAddr hF rfl rfl (h1.row.tad shC_len (by decide) (i:=i) hix) (by omega) (by omega) rfl ?_
   refine TL.fieldAddr hF rfl rfl ?_
   refine TL.load hF rfl ((h1.up (η':=tg::kg::[(b5,Obj.cells (wsC s).toArray 23 (0,0))]::η) (by simp)).row.tabA shC_len (i:=i) hix 1 _ rfl) rfl ?_
   refine TL.nil ?_
   refine TQ.then_n ?_
   refine T.cond_f rfl (by rw [hlt]; exact decide_eq_false hlate) ?_
   refine T.skip ?_
   refine TQ.then_n ?_
   refine T.seq ?_
   refine T.region ?_
   refine TL.move hF rfl rfl ?_
   refine TL.move hF rfl rfl ?_
   refine TL.move hF rfl rfl ?_
   refine TL.indexAddr hF rfl rfl (rr_ad hlr hil) (by omega) (by omega) rfl ?_
   refine TL.loadA hF (rwC L[i]) rfl rfl (rr_at (hlr.up (by simp)) hil) rfl ?_
   refine TL.buildSlice hF rfl (cs:=(rwC L[i]).toArray) (e:=57) (fun w=>by kernel_rfl) rfl (fun bq=>?_)
   refine TL.append hF 2 rfl rfl rfl hk (row_own (cs:=rwC L[i]) (e:=57) (b:=bq) (by simp)).src rfl rfl (rwC1 _) (by omega) (by omega) rfl (fun pa pc pg ph=>?_)
   obtain ⟨e1,e2,e3⟩:=run_on (s:=s) (l:=L.take i) (r:=L[i]) hlate
   rw [← htk] at e1 e2 e3
   have hkl2:(hadS s (L.take (i+1))).length=(hadS s (L.take i)).length+1:=by rw [e2]; simp
   rw [flat_snoc,← e2,← hkl2] at ph
   have hout:xs[i].st.outs=overS (allS s ((hadS s (L.take i))++[L[i]])) (markS s (L.take i)) (max (markS s (L.take i)) (L[i].time - s.late)):=by rw [hst]; unfold stpAt; rw [hd,if_neg hlate]
   have hsub2:∀ r∈L.take (i+1),r∈L:=fun r h=>List.mem_of_mem_take h
   have hq2:=(had_askd hq hsub2 (by rw [List.length_take]; omega)).1
   rw [e2] at hq2
   have hob:xs[i].st.outs.length≤314573100:=by rw [hout]; exact Nat.le_trans overS_len (all_len hq2)
   have hov:∀ x∈xs[i].st.outs,(markS s (L.take i))<x.to∧x.to≤(max (markS s (L.take i)) (L[i].time - s.late)):=fun x hx=>by rw [hout] at hx; exact ((mem_over (all_up hq.w _)).1 hx).2
   have hmk2:=mark_rng hq hsub2
   rw [e3] at hmk2
   have hte:(toldS s (L.take (i+1)))=(toldS s (L.take i))++xs[i].st.outs:=by unfold toldS; rw [e1,hout,List.flatMap_append]; simp
   refine TL.assign hF rfl rfl ?_
   refine TL.nil ?_
   refine TQ.then_n ?_
   refine T.seq ?_
   refine T.draw ?_
   refine DR.stepV [_] rfl [(12,_,none)] rfl rfl ⟨⟨rfl,by kernel_rfl⟩,trivial⟩ (fun ext=>TL.move hF rfl rfl TL.fin) ?_
   refine DR.stepV [_,_] rfl [(6,_,none)] rfl rfl ⟨⟨rfl,by kernel_rfl⟩,trivial⟩ (fun ext=>TL.move hF rfl rfl TL.fin) ?_
   refine DR.stepV [_,_,_] rfl [(13,_,none)] rfl rfl ⟨⟨rfl,by kernel_rfl⟩,trivial⟩ (fun ext=>TL.move hF rfl rfl TL.fin) ?_
   refine DR.stepV [_,_,_,_] rfl [(88,_,some 1),(89,_,some 2)] rfl rfl ⟨⟨rfl,rfl,rfl⟩,⟨rfl,rfl,rfl⟩,trivial⟩ (fun ext=>TL.indexAddr hF rfl rfl (rr_ad hlr hil) (by omega) (by omega) rfl TL.fin) ?_
   refine DR.stepV [_,_,_,_,_] rfl [(90,_,some 3)] rfl rfl ⟨⟨rfl,rfl,rfl⟩,trivial⟩ (fun ext=>TL.fieldAddr hF rfl rfl TL.fin) ?_
   refine DR.stepV [_,_,_,_,_,_] rfl [(91,_,some 4)] rfl rfl ⟨⟨rfl,rfl,rfl⟩,trivial⟩ (fun ext=>TL.load hF rfl (rr_at (hlr.up (by simp)) hil 0 _ rfl) rfl TL.fin) ?_
   refine DR.stepV [_,_,_,_,_,_,_] rfl [(5,_,none)] rfl rfl ⟨⟨rfl,by kernel_rfl⟩,trivial⟩ (fun ext=>TL.fieldAddr hF rfl rfl TL.fin) ?_
   refine DR.stepV [_,_,_,_,_,_,_,_] rfl [(93,_,some 6)] rfl rfl ⟨⟨rfl,rfl,rfl⟩,trivial⟩ (fun ext=>TL.load hF rfl (show At _ _ _ _ (.int .i64 s.late) from own_mem (b:=b5) (cs:=(wsC s).toArray) (e:=23) (fz:=(0,0)) (by simp) rfl) rfl TL.fin) ?_
   refine DR.stepV [_,_,_,_,_,_,_,_,_] rfl [(92,_,some 5),(94,_,some 7)] rfl rfl ⟨⟨rfl,rfl,rfl⟩,⟨rfl,rfl,rfl⟩,trivial⟩ (fun ext=>TL.sub hF rfl rfl (by first | omega | (dsimp only; omega)) (by first | omega | (dsimp only; omega)) rfl TL.fin) ?_
   refine DR.done [(95,_),(94,_),(93,_),(92,_),(91,_),(90,_),(89,_),(88,_),(87,_)] [_,_] mixed (by kernel_rfl) (by kernel_rfl) (by kernel_rfl) rfl rfl ?_
   refine TL.max2 hF rfl rfl rfl ?_
   refine TL.assign hF rfl rfl ?_
   refine TL.nil ?_
   refine TQ.then_n ?_
   refine T.seq ?_
   refine T.seq ?_
   refine T.region ?_
   refine TL.assign hF rfl rfl ?_
   refine TL.nil ?_
   refine TQ.then_n ?_
   refine T.block ?_
   rw [← hkl2]
   refine T.heap (η':=[(bq,Obj.cells (rwC L[i]).toArray 57 (0,0))]::tg::pg::[(b5,Obj.cells (wsC s).toArray 23 (0,0))]::η) rfl ?_
   refine T.hsub (tg::pg::[(b5,Obj.cells (wsC s).toArray 23 (0,0))]::η) (List.sublist_cons_self _ _) ?_
   refine T.loop (ι:=Nat) (fun k=>k≤xs[i].st.outs.length) (fun k=>[(4,.bool false),(5,ptr b5),(6,.slice ra L.length rc),(7,.slice la xs.length lc),(8,.slice oa (leftS s L).length oc),(10,.slice pa (hadS s (L.take (i+1))).length pc),(11,.slice ta (toldS s (L.take i)).length tc),(12,.int .i64 (markS s (L.take i))),(13,.int .i64 (i:Int)),(14,.int .i64 (max (markS s (L.take i)) (L[i].time - s.late))),(15,.int .i64 (k:Int))]) (fun _=>tg::pg::[(b5,Obj.cells (wsC s).toArray 23 (0,0))]::η) (fun k=>xs[i].st.outs.length - k) 0 (Nat.zero_le _) ⟨rfl,rfl,rfl,rfl,rfl,rfl,rfl,rfl,rfl,rfl,rfl,trivial⟩ rfl ?_
   rintro k hk2
   have hit:ORow _ _ (tg::pg::[(b5,Obj.cells (wsC s).toArray 23 (0,0))]::η) xs[i].a xs[i].st.outs:=(h1.item _ (List.getElem_mem hix)).up (by simp)
   refine T.seq ?_
   refine T.seq ?_
   refine T.region ?_
   refine TL.move hF rfl rfl ?_
   refine TL.move hF rfl rfl ?_
   refine TL.move hF rfl rfl ?_
   refine TL.indexAddr hF rfl rfl (h1.row.tad shC_len (by decide) (i:=i) hix) (by omega) (by omega) rfl ?_
   refine TL.fieldAddr hF rfl rfl ?_
   refine TL.load hF rfl ((h1.up (η':=tg::pg::[(b5,Obj.cells (wsC s).toArray 23 (0,0))]::η) (by simp)).row.tabA shC_len (i:=i) hix 0 _ rfl) rfl ?_
   refine TL.len hF rfl rfl ?_
   refine TL.bin hF rfl rfl rfl rfl ?_
   refine TL.nil ?_
   refine TQ.then_n ?_
   first | refine T.cond_d rfl (fun ht104=>?_) (fun ht104=>?_) | refine T.cond _ rfl (fun ht104=>?_) (fun ht104=>?_)
   ·refine T.skip ?_
    refine TQ.then_n ?_
    refine T.seq ?_
    refine T.block ?_
    refine T.seq ?_
    refine T.region ?_
    have hko:k<xs[i].st.outs.length:=by have h:(k:Int)<(xs[i].st.outs.length:Int):=ht104; omega
    have hov2:=hov _ (List.getElem_mem hko)
    refine TL.move hF rfl rfl ?_
    refine TL.move hF rfl rfl ?_
    refine TL.indexAddr hF rfl rfl (h1.row.tad shC_len (by decide) (i:=i) hix) (by omega) (by omega) rfl ?_
    refine TL.fieldAddr hF rfl rfl ?_
    refine TL.load hF rfl ((h1.up (η':=tg::pg::[(b5,Obj.cells (wsC s).toArray 23 (0,0))]::η) (by simp)).row.tabA shC_len (i:=i) hix 0 _ rfl) rfl ?_
    refine TL.move hF rfl rfl ?_
    refine TL.indexAddr hF rfl rfl (or_ad hit hko) (by omega) (by omega) rfl ?_
    refine TL.fieldAddr hF rfl rfl ?_
    refine TL.load hF rfl (or_at hit hko 1 _ rfl) rfl ?_
    refine TL.move hF rfl rfl ?_
    refine TL.add hF rfl rfl (by first | omega | (dsimp only; omega)) (by first | omega | (dsimp only; omega)) rfl ?_
    refine TL.move hF rfl rfl ?_
    refine TL.callV hF (Lies_fn xs[i].st.outs[k].to ((markS s (L.take i))+1) (max (markS s (L.take i)) (L[i].time - s.late))) rfl rfl ?_
    refine TL.not hF rfl rfl ?_
    refine TL.nil ?_
    refine TQ.then_n ?_
    refine T.cond_f rfl (by simp; omega) ?_
    refine T.skip ?_
    refine TQ.block_n ?_
    refine TQ.then_n ?_
    refine T.region ?_
    refine TL.move hF rfl rfl ?_
    refine TL.add hF rfl rfl (by first | omega | (dsimp only; omega)) (by first | omega | (dsimp only; omega)) rfl ?_
    refine TL.assign hF rfl rfl ?_
    refine TL.nil ?_
    exact TQ.round (k+1) (by omega) (by omega) ⟨rfl,rfl,rfl,rfl,rfl,rfl,rfl,rfl,rfl,rfl,rfl,trivial⟩ rfl
   ·refine T.exit ?_
    refine TQ.then_x ?_
    refine TQ.then_x ?_
    refine TQ.block_x ?_
    refine TQ.then_n ?_
    refine T.region ?_
    refine TL.move hF rfl rfl ?_
    refine TL.move hF rfl rfl ?_
    refine TL.move hF rfl rfl ?_
    refine TL.indexAddr hF rfl rfl (h1.row.tad shC_len (by decide) (i:=i) hix) (by omega) (by omega) rfl ?_
    refine TL.fieldAddr hF rfl rfl ?_
    refine TL.load hF rfl ((h1.up (η':=tg::pg::[(b5,Obj.cells (wsC s).toArray 23 (0,0))]::η) (by simp)).row.tabA shC_len (i:=i) hix 0 _ rfl) rfl ?_
    refine TL.append hF 0 rfl rfl rfl ht hit.src rfl (flat4 _) (otC_mem1 _) (by omega) (by omega) rfl (fun na nc ng nh=>?_)
    have htl2:(toldS s (L.take (i+1))).length=(toldS s (L.take i)).length+xs[i].st.outs.length:=by rw [hte,List.length_append]
    rw [← List.flatMap_append,← hte,← htl2] at nh
    refine TL.move hF rfl rfl ?_
    refine TL.assign hF rfl rfl ?_
    refine TL.assign hF rfl rfl ?_
    refine TL.nil ?_
    refine TQ.block_n ?_
    refine TQ.then_n ?_
    refine T.region ?_
    refine TL.move hF rfl rfl ?_
    refine TL.add hF rfl rfl (by first | omega | (dsimp only; omega)) (by first | omega | (dsimp only; omega)) rfl ?_
    refine TL.assign hF rfl rfl ?_
    refine TL.nil ?_
    exact TQ.round ⟨i+1,pa,pc,pg,na,nc,ng⟩ ⟨hil,ph,nh⟩ (by dsimp only; omega) ⟨rfl,rfl,rfl,rfl,rfl,rfl,by dsimp only; rw [htl2]; rfl,by dsimp only; rw [e3]; rfl,rfl,trivial⟩ rfl
 ·refine T.exit ?_
  refine TQ.then_x ?_
  refine TQ.then_x ?_
  refine TQ.block_x ?_
  refine TQ.then_n ?_
  refine T.seq ?_
  refine T.seq ?_
  refine T.region ?_
  refine TL.assign hF rfl rfl ?_
  refine TL.nil ?_
  refine TQ.then_n ?_
  refine T.block ?_
  have hie:i=L.length:=by have h:¬ (i:Int)<(L.length:Int):=ht43; omega
  subst hie
  rw [List.take_length] at hk ht hmk hkl htb ⊢
  have hll:(leftS s L).length≤314573100:=by
   have h8:=(stream_all hq).2.length_eq
   have h9:=all_len (had_askd hq (fun r h=>h) hq.len).1
   rw [List.length_append] at h8
   omega
  refine T.heap (η':=tg::kg::[(b5,Obj.cells (wsC s).toArray 23 (0,0))]::η) rfl ?_
  refine T.loop (ι:=Nat) (fun j=>j≤(leftS s L).length) (fun j=>[(4,.bool false),(5,ptr b5),(8,.slice oa (leftS s L).length oc),(10,.slice ka (hadS s L).length kc),(11,.slice ta (toldS s L).length tc),(12,.int .i64 (markS s L)),(16,.int .i64 (j:Int))]) (fun _=>tg::kg::[(b5,Obj.cells (wsC s).toArray 23 (0,0))]::η) (fun j=>(leftS s L).length - j) 0 (Nat.zero_le _) ⟨rfl,rfl,rfl,rfl,rfl,rfl,rfl,trivial⟩ rfl ?_
  rintro j hj
  refine T.seq ?_
  refine T.seq ?_
  refine T.region ?_
  refine TL.move hF rfl rfl ?_
  refine TL.move hF rfl rfl ?_
  refine TL.len hF rfl rfl ?_
  refine TL.bin hF rfl rfl rfl rfl ?_
  refine TL.nil ?_
  refine TQ.then_n ?_
  first | refine T.cond_d rfl (fun ht132=>?_) (fun ht132=>?_) | refine T.cond _ rfl (fun ht132=>?_) (fun ht132=>?_)
  ·refine T.skip ?_
   refine TQ.then_n ?_
   refine T.seq ?_
   refine T.block ?_
   refine T.seq ?_
   refine T.region ?_
   have hjl:j<(leftS s L).length:=by have h:(j:Int)<((leftS s L).length:Int):=ht132; omega
   have hjt:markS s L<(leftS s L)[j].to:=by
    have h9:(leftS s L)[j]∈leftS s L:=List.getElem_mem hjl
    unfold leftS at h9
    have h8:=(List.mem_filter.1 h9).2
    rw [decide_eq_true_eq] at h8
    exact h8
   refine TL.move hF rfl rfl ?_
   refine TL.move hF rfl rfl ?_
   refine TL.indexAddr hF rfl rfl (or_ad h2 hjl) (by omega) (by omega) rfl ?_
   refine TL.fieldAddr hF rfl rfl ?_
   refine TL.load hF rfl (or_at (h2.up (by simp)) hjl 1 _ rfl) rfl ?_
   refine TL.move hF rfl rfl ?_
   refine TL.bin hF rfl rfl rfl rfl ?_
   refine TL.nil ?_
   refine TQ.then_n ?_
   refine T.cond_f rfl (decide_eq_false (by omega)) ?_
   refine T.skip ?_
   refine TQ.block_n ?_
   refine TQ.then_n ?_
   refine T.region ?_
   refine TL.move hF rfl rfl ?_
   refine TL.add hF rfl rfl (by first | omega | (dsimp only; omega)) (by first | omega | (dsimp only; omega)) rfl ?_
   refine TL.assign hF rfl rfl ?_
   refine TL.nil ?_
   exact TQ.round (j+1) (by omega) (by omega) ⟨rfl,rfl,rfl,rfl,rfl,rfl,rfl,trivial⟩ rfl
  ·refine T.exit ?_
   refine TQ.then_x ?_
   refine TQ.then_x ?_
   refine TQ.block_x ?_
   refine TQ.then_n ?_
   refine T.seq ?_
   refine T.region ?_
   have hkr:RRow S2 w2 [kg] ka (hadS s L):=hk.row (by simp)
   have hkc:=osl_cap hk
   refine TL.hperm (kg::tg::[(b5,Obj.cells (wsC s).toArray 23 (0,0))]::η) (List.Perm.swap _ _ _) ?_
   refine TL.freeze ([kg]) rfl (fun S3 w3 hz3=>?_)
   replace hb:=hb.frz hz3
   replace hT:=hT.old hz3
   replace hlr:=hlr.old hz3
   replace h1:=h1.old hz3
   replace h2:=h2.old hz3
   replace hkr:=hkr.frz hz3
   refine TL.loadA hF (wsC s) rfl rfl (own_listM (b:=b5) (cs:=wsC s) (e:=23) (fz:=(0,0)) (by simp)) rfl ?_
   refine TL.move hF rfl rfl ?_
   refine TL.call hF (Whole_fn hT s hkr (by omega) hkc) rfl rfl ?_
   rintro _ _ ⟨ga,gc,segs,rfl,h5,rfl⟩
   have hhq:=(had_askd hq (fun r h=>h) hq.len).1
   have hwe:wholeS s (hadS s L)=(allS s (hadS s L),0):=by unfold wholeS; rw [if_pos hhq.asked]
   rw [hwe] at h5 ⊢
   dsimp only at h5 ⊢
   refine TL.freeze (segs) rfl (fun S4 w4 hz4=>?_)
   replace hb:=hb.frz hz4
   replace hT:=hT.old hz4
   replace hlr:=hlr.old hz4
   replace h1:=h1.old hz4
   replace h2:=h2.old hz4
   replace hkr:=hkr.old hz4
   replace h5:=h5.frz hz4
   have hal:=all_len hhq
   have hsa:=stream_all hq
   refine TL.move hF rfl rfl ?_
   refine TL.extract hF rfl rfl rfl ?_
   refine TL.extract hF rfl rfl rfl ?_
   refine TL.assign hF rfl rfl ?_
   refine TL.assign hF rfl rfl ?_
   refine TL.nil ?_
   refine TQ.then_n ?_
   refine T.seq ?_
   refine T.region ?_
   refine TL.move hF rfl rfl ?_
   refine TL.bin hF rfl rfl rfl rfl ?_
   refine TL.move hF rfl rfl ?_
   refine TL.on rfl rfl rfl (by decide) ?_
   refine TL.move hF rfl rfl ?_
   refine TL.on rfl rfl rfl (by decide) ?_
   refine TL.move hF rfl rfl ?_
   refine TL.on rfl rfl rfl (by decide) ?_
   refine TL.append hF 0 rfl rfl rfl ht (h2.up (by simp)).src rfl (flat4 _) (otC_mem1 _) (by omega) (by omega) rfl (fun na nc ng nh=>?_)
   have htl3:(toldS s L++leftS s L).length=(toldS s L).length+(leftS s L).length:=List.length_append
   rw [← List.flatMap_append,← htl3] at nh
   rw [← htl3]
   refine TL.on rfl rfl rfl (by decide) ?_
   refine TL.move hF rfl rfl ?_
   refine TL.on rfl rfl rfl (by decide) ?_
   refine TL.callV hF (same_fn (nh.row (by simp)) (h5.up (by simp)) hsa.1 hsa.2 (by omega)) rfl rfl ?_
   refine TL.pickT hF rfl (by decide) rfl rfl ?_
   refine TL.move hF rfl rfl ?_
   refine TL.on rfl rfl rfl rfl ?_
   refine TL.call hF (windowed_law hT) rfl rfl ?_
   rintro _ _ rfl
   refine TL.pickT hF rfl rfl rfl rfl ?_
   refine TL.assign hF rfl rfl ?_
   refine TL.nil ?_
   refine TQ.then_n ?_
   refine T.ret ?_
   exact TQ.retsF [4] _ hb rfl rfl rfl (fun _=>rfl)
end Go.Proofs.YtbajelldegijkaaDoor
namespace Go.Proofs.YtbajelldegijkaaDoor
open Go.Sl Go.ChangeShapes Go.WideShapes Go.ChangeAt Go.RowKit
set_option maxRecDepth 100000 in
theorem windowStream_lifted (os : Os) (started : os.Started) (H : Type) (enc : TypeId × Value → H) :
    ReturnsInHanded {} Tryd.checked os 6 .any (fun w args=>(Rows.windowStreamSpec.pre enc Tryd.prog Tryd.f6 [] false w args∧laidMetH Tryd.prog laidL w)∧sizedMet enc Tryd.prog Tryd.f6 (OpenSpec.ofChange Rows.windowStreamSpec) false w args)
      (Rows.windowStreamSpec.post enc Tryd.prog Tryd.f6 false true false false):=by
  refine returnsInHanded_of_change_and (C:=Tryd.checked) (X:=fun w _=>laidMetH Tryd.prog laidL w) (fun _ _ _ hh h=>h.of_heap hh) Tryd.own started (by kernel_rfl) Tryd.func6
    (ChangeSpec.witness_shaped (enc:=enc) (C:=Tryd.checked) (os:=os) (X:=fun w _=>laidMetH Tryd.prog laidL w) false (World.doorLaid Tryd.prog 2000 os) #[.agg #[.int .i64 0,.int .i64 0,.int .i64 0,.int .i64 0,.int .i64 0],.slice none 0 0] 8 rfl (World.shaped_of_RefB (by kernel_rfl) (by kernel_rfl)) (by kernel_rfl) (by kernel_rfl) (by kernel_rfl) (door_met os _)) ?_
  intro W base args ds gs before hval0 hW _ hwt hL _
  have hval':∀ (j:Nat) t v,Tryd.f6.params[j]?=some t→args[j]?=some v→Value.okWide Tryd.prog W .any base t v:=hval0
  have hW':=hW
  obtain ⟨p,q,hA0,hV,rfl,hfz,hnd⟩:=hW
  have hA:DataW.TrodAll enc Tryd.prog W 0 (fun _=>true) true [53,43] args.toList ds p:=hA0
  obtain ⟨v0,v1,d0,d1,p0,p1,rfl,rfl,rfl,h0,h1⟩:=trodAll_two hA
  obtain ⟨n0,rfl⟩:=five_open (hval' 0 53 v0 rfl rfl) h0
  obtain ⟨_,_,_,rfl⟩:=okWide_slice uIs (hval' 1 43 v1 rfl rfl)
  obtain ⟨_,h1⟩:=h1
  obtain ⟨a1,xs1,c1,e1,hx1,hl1,hc1,hb1⟩:=ints_arg h1
  rw [e1] at hW' ⊢
  refine (calls_true (WindowStream_fn (tabs_of_laid hL) hx1 hl1)).mono fun e W' ⟨he,hw⟩=>⟨_,he,?_⟩
  exact law_post (f:=Tryd.f6) Tryd.laidOut rfl 4 rfl u4 hW' rfl (by decide +kernel) hw
theorem windowStream_said:Rows.WindowStreamSaid :=
  OpenClaim.holds_of_wide 6 Tryd.f6 rfl rfl rfl rfl rfl rfl rfl ⟨rfl,rfl,rfl,rfl,rfl⟩ rfl rfl rfl rfl rfl (by kernel_rfl) Tryd.func6 (by kernel_rfl)
    (of_decide_eq_true (by kernel_rfl)) (by unfold Func.isWrapper; first | (rw [if_pos (by decide +kernel)]; kernel_rfl) | (rw [if_neg (by decide +kernel)]; exact ⟨rfl,rfl⟩))
    (fun os started H enc _=>windowStream_lifted os started H enc)
theorem windowStream_holds:Rows.WindowStreamCardSaid :=
  Claim7.holds_tied_plain_at .later [] [.funcs] true (true, "edd8e981fe4d3e724f26595c5f9106e083d3da54a7e7e8d858f79c443b2db2cc") true
    windowStream_said (fun _ h=>by cases h) (by kernel_rfl) (fun _ h=>by cases h) windowStream_row_tie rfl ⟨rfl,rfl⟩ (by kernel_rfl) rfl
    (fun f fn hf hfn=>by
      obtain rfl : f = 6 := Option.some.inj ((show Tryd.prog.funcNamed "deltaworks/deltaworkslaw25.WindowStream" = some 6 by kernel_rfl).symm.trans hf) |>.symm
      obtain rfl:fn=Tryd.f6:=(Option.some.inj (Tryd.func6.symm.trans hfn)).symm
      exact ⟨by kernel_rfl,fun j t ht=>by
        have ht2:(#[53,43]:Array TypeId)[j]?=some t:=ht
        have hm:t∈([53,43]:List TypeId):=by simpa using Array.mem_of_getElem? ht2
        have hall:(([53,43]:List TypeId).all fun u=>!Tryd.prog.wantsStandIn u)=true:=by kernel_rfl
        exact (show Tryd.prog.wantsStandIn t=false by simpa using List.all_eq_true.1 hall t hm)⟩)
    (by kernel_rfl)
#print axioms windowStream_holds
end Go.Proofs.YtbajelldegijkaaDoor
