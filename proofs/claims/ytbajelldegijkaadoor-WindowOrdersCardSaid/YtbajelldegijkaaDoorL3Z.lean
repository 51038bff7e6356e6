/- All windows are the same whatever the order of the rows, and how late rows may be, for every input. No condition. -/
import Derived.Test.YtbajelldegijkaaDoorVh
import Derived.Test.YtbajelldegijkaaDoorVi
import Derived.Test.YtbajelldegijkaaDoorCards
import Derived.Test.YtbajelldegijkaaDoorTie
/- Rows that are turned, and put in order: what the law of orders makes first. -/
namespace Go.Proofs.YtbajelldegijkaaDoor
open Go.Sl
variable {S:Nat→Prop} {w0:World} {η:Heap}
theorem rsl_row {g c k:Nat} {cur:List Value} {d:List Rw} {x:Rw} (h:OSl 57 3 (.slice (some ⟨g,0,none⟩) d.length c) d.length (d.flatMap rwC) [(g,.cells cur.toArray 57 (0,0))]) (hk:k<d.length):OSl 57 3 (.slice (some ⟨g,0,none⟩) d.length c) d.length ((d.set k x).flatMap rwC) [(g,.cells (cur.take (k*3)++rwC x++cur.drop (k*3+3)).toArray 57 (0,0))]∧k*3+3≤cur.length:=by
 obtain ⟨h1,h2⟩:=h
 rcases h2 with ⟨hv,_⟩ | ⟨b,cap,cur',hv,hs,hc,hz,ht⟩
 ·cases hv
 ·simp only [Value.slice.injEq,Option.some.injEq,Addr.mk.injEq,and_true,true_and] at hv
  obtain ⟨rfl,rfl⟩:=hv
  simp only [List.cons.injEq,Prod.mk.injEq,Obj.cells.injEq,and_true,true_and] at hs
  subst hs
  have ht:cur.take (d.length*3)=d.flatMap rwC:=ht
  have hlen:cur.length=c*3:=by simpa using hz
  have hcm:d.length*3≤c*3:=Nat.mul_le_mul_right _ hc
  have e2:d.set k x=d.take k++x::d.drop (k+1):=List.set_eq_take_append_cons_drop ▸ (if_pos hk)
  have l1:(d.take k).length=k:=by rw [List.length_take]; omega
  have f1:((d.take k).flatMap rwC).length=k*3:=by rw [flat3,l1]
  have ecur:cur=d.flatMap rwC++cur.drop (d.length*3):=by rw [← ht,List.take_append_drop]
  have ed:d.flatMap rwC=(d.take k).flatMap rwC++(rwC d[k]++(d.drop (k+1)).flatMap rwC):=by
   have e1:d=d.take k++d[k]::d.drop (k+1):=by rw [List.getElem_cons_drop,List.take_append_drop]
   conv=>lhs; rw [e1]
   rw [List.flatMap_append,List.flatMap_cons]
  obtain ⟨E,hE⟩:∃ E,cur.drop (d.length*3)=E:=⟨_,rfl⟩
  rw [hE] at ecur
  have ecur2:cur=(d.take k).flatMap rwC++(rwC d[k]++((d.drop (k+1)).flatMap rwC++E)):=ecur.trans (by rw [ed]; simp only [List.append_assoc])
  have hEl:E.length=c*3 - d.length*3:=by rw [← hE,List.length_drop,hlen]
  have enew:cur.take (k*3)++rwC x++cur.drop (k*3+3)=(d.set k x).flatMap rwC++E:=by
   rw [ecur2,List.take_left' f1,show k*3+3=k*3+(rwC d[k]).length from rfl,← List.drop_drop,List.drop_left' f1,List.drop_left' rfl,e2,List.flatMap_append,List.flatMap_cons]
   simp only [List.append_assoc]
  have hsl:(d.set k x).length=d.length:=List.length_set
  refine ⟨⟨by rw [flat3,hsl],.inr ⟨g,c,_,rfl,rfl,hc,?_,?_⟩⟩,by omega⟩
  ·rw [enew]; simp only [List.size_toArray,List.length_append,flat3,hsl,hEl]; omega
  ·show List.take _ _=_
   rw [enew,List.take_left' (by rw [flat3,hsl])]
/-- Turned so far. -/
def turnTo (L:List Rw) (t i:Nat):List Rw:=((List.range i).map fun j=>L.getD ((j+t) % L.length) default)++L.drop i
theorem turnTo_zero (L:List Rw) (t:Nat):turnTo L t 0=L:=by simp [turnTo]
theorem turnTo_len {L:List Rw} {t i:Nat} (h:i≤L.length):(turnTo L t i).length=L.length:=by unfold turnTo; simp; omega
theorem turnTo_step {L:List Rw} {t i:Nat} (h:i<L.length):(turnTo L t i).set i (L.getD ((i+t) % L.length) default)=turnTo L t (i+1):=by
 have l1:((List.range i).map fun j=>L.getD ((j+t) % L.length) default).length=i:=by simp
 unfold turnTo
 rw [List.set_append_right (h:=by omega),l1,Nat.sub_self,List.drop_eq_getElem_cons h,List.set_cons_zero,List.range_succ,List.map_append,List.append_assoc]
 rfl
theorem turnTo_all (L:List Rw) (t:Nat):(turnTo L t L.length).Perm L:=by
 unfold turnTo
 rw [List.drop_length,List.append_nil]
 exact turn_perm
theorem swp_two {d:List Rw} {k:Nat} (h:k<d.length) (h0:0<k):(d.set k d[k - 1]).set (k - 1) d[k]=swp d k (k - 1):=by
 unfold swp
 rw [List.getElem?_eq_getElem h,List.getElem?_eq_getElem (by omega)]
 rfl
theorem srt_pw {d:List Rw} (h:SrtR d 0 d.length):d.Pairwise fun a b=>a.time≤b.time:=by
 rw [List.pairwise_iff_getElem]
 intro i j hi hj hij
 have:=h i j (Nat.zero_le _) hij hj
 rw [tmA_eq hi,tmA_eq hj]; exact this
end Go.Proofs.YtbajelldegijkaaDoor
/- The law of orders. -/
namespace Go.Proofs.YtbajelldegijkaaDoor
open Go.Sl
variable {S:Nat→Prop} {w0:World} {η:Heap}
theorem askd_late {s:Wsp} {l:List Rw} (h:Askd s l) {n:Int} (h0:0≤n) (h1:n≤1000):Askd { s with late:=n } l:=by
 refine ⟨?_,h.len,h.rows⟩
 have:=h.ok
 unfold okS at this ⊢
 simp only [Bool.and_eq_true,decide_eq_true_eq] at this ⊢
 exact ⟨⟨⟨⟨this.1.1.1.1,h0⟩,h1⟩,this.1.2⟩,this.2⟩
theorem askd_perm {s:Wsp} {l m:List Rw} (h:Askd s l) (hp:m.Perm l):Askd s m:=h.sub (fun _ hr=>hp.mem_iff.1 hr) (by rw [hp.length_eq]; exact h.len)
theorem steps_of {s:Wsp} {L:List Rw} {xs:List SH} (h:xs.map (·.st)=stpsS s L):xs.length=L.length∧∀ (i:Nat) (hi:i<xs.length),xs[i].st=stpAt s L i:=by
 refine ⟨by rw [← List.length_map (f:=SH.st),h,stps_len],fun i hi=>?_⟩
 have e:(xs.map (·.st))[i]?=(stpsS s L)[i]?:=by rw [h]
 have hi2:i<(stpsS s L).length:=by rw [← h,List.length_map]; exact hi
 rw [List.getElem?_map,List.getElem?_eq_getElem hi,List.getElem?_eq_getElem hi2,Option.map_some,stps_get hi2] at e
 exact Option.some.inj e
theorem wholeS_of {s:Wsp} {l:List Rw} (h:Askd s l):wholeS s l=(allS s l,0):=by unfold wholeS; rw [if_pos h.asked]
theorem playS_of {s:Wsp} {l:List Rw} (h:Askd s l):playS s l=(stpsS s l,leftS s l,0):=by unfold playS; rw [if_pos h.asked]; rfl
set_option maxHeartbeats 8000000 in
theorem WindowOrders_fn {n : N5} {a : Option Addr} {l : List Int} {c : Nat} {z1 z2 : Int} (hT : Tabs S w0) (hx : Row S w0 [] a (ints l)) (hl : l.length < 9223372036854775808) :
  Rt Tryd.prog 7 [n5V n,.slice a l.length c,.int .i64 z1,.int .i64 z2].toArray S w0 η (fun v _=>v = .bool true):=by
 have hF:=open_wide
 refine Rt.of (fn:=Tryd.f7) Tryd.func7 rfl rfl ?_
 refine T.seq ?_
 refine T.region ?_
 refine TL.box hF rfl rfl (fun b4=>?_)
 refine TL.assign hF rfl rfl ?_
 refine TL.nil ?_
 refine TQ.then_n ?_
 refine T.seq ?_
 refine T.region ?_
 have hb:=Back.refl S w0
 refine TL.loadA hF (n5C n) rfl rfl (own_list (i:=0) (cs:=n5C n) rfl) rfl ?_
 refine TL.callV hF (cut_fn n) rfl rfl ?_
 refine TL.move hF rfl rfl ?_
 refine TL.call hF (streamL_fn hx hl) rfl rfl ?_
 rintro _ _ ⟨ra,rc,rg,rfl,hro,rfl⟩
 obtain ⟨s,hse⟩:∃ s,s=cutW n:=⟨_,rfl⟩
 obtain ⟨L,hLe⟩:∃ L,L=rowsOf l:=⟨_,rfl⟩
 have hq:Askd s L:=by rw [hse,hLe]; exact rowsOf_askd (cutW_ok n) (fun r h=>h) (by have:=rowsOf_len l; omega)
 have hL30:L.length≤30:=by rw [hLe]; exact rowsOf_len l
 have hL40:∀ r∈L,0≤r.time∧r.time≤40:=fun r hr=>(rowsOf_mem (by rw [← hLe]; exact hr)).1
 rw [← hse,← hLe]
 rw [← hLe] at hro
 have hsz:=hq.size
 have hrc:=osl_cap hro
 have hlr:RRow S w0 [rg] ra L:=hro.row (by simp)
 have hal:=all_len hq
 obtain ⟨t,ht⟩:∃ t:Nat,turnI z1 30=(t:Int):=⟨(turnI z1 30).toNat,by have:=turnI_range z1 (m:=30) (by decide); omega⟩
 have ht30:=turnI_range z1 (m:=30) (by decide)
 rw [ht] at ht30
 refine TL.freeze ([rg]) rfl (fun S1 w1 hz1=>?_)
 replace hb:=hb.frz hz1
 replace hT:=hT.old hz1
 replace hlr:=hlr.frz hz1
 refine TL.hsub η (List.sublist_cons_self _ _) ?_
 refine TL.alloc hF rfl (fun b9=>?_)
 refine TL.storeAs hF (wsC s) (wsC s) 0 (cs:=[.int .i64 0,.int .i64 0,.int .i64 0,.int .i64 0,.int .i64 0]) rfl rfl rfl rfl (wsC1 _) (Nat.le_refl 5) rfl ?_
 refine TL.assign hF rfl rfl ?_
 refine TL.nil ?_
 refine TQ.then_n ?_
 refine T.seq ?_
 refine T.region ?_
 refine TL.buildSlice hF rfl (cs:=#[]) (e:=57) (fun w=>by kernel_rfl) rfl (fun b39=>?_)
 refine TL.move hF rfl rfl ?_
 refine TL.append hF 0 rfl rfl rfl osl_empty (hlr.up (by simp)).src rfl (flat3 _) (rwC_mem1 _) (by omega) (by omega) rfl (fun ua uc ug uh=>?_)
 rw [Nat.zero_add,List.nil_append] at uh
 rw [Nat.zero_add]
 refine TL.assign hF rfl rfl ?_
 refine TL.nil ?_
 refine TQ.then_n ?_
 refine T.seq ?_
 refine T.seq ?_
 refine T.region ?_
 refine TL.assign hF rfl rfl ?_
 refine TL.nil ?_
 refine TQ.then_n ?_
 refine T.block ?_
 refine T.heap (η':=ug::[(b9,Obj.cells (wsC s).toArray 23 (0,0))]::η) rfl ?_
 refine T.loop (ι:=Nat × Seg) (fun z=>z.1≤L.length∧OSl 57 3 (.slice ua L.length uc) L.length ((turnTo L t z.1).flatMap rwC) z.2) (fun z=>[(2,.int .i64 z1),(3,.int .i64 z2),(8,.bool false),(9,ptr b9),(10,.slice ra L.length rc),(11,.slice ua L.length uc),(12,.int .i64 (z.1:Int))]) (fun z=>z.2::[(b9,Obj.cells (wsC s).toArray 23 (0,0))]::η) (fun z=>L.length - z.1) (0,ug) ⟨Nat.zero_le _,by dsimp only; rw [turnTo_zero]; exact uh⟩ ⟨rfl,rfl,rfl,rfl,rfl,rfl,rfl,trivial⟩ rfl ?_
 clear uh
 rintro ⟨i,ug⟩ ⟨hi,ho⟩
 dsimp only at hi ho
 refine T.seq ?_
 refine T.seq ?_
 refine T.region ?_
 refine TL.move hF rfl rfl ?_
 refine TL.move hF rfl rfl ?_
 refine TL.len hF rfl rfl ?_
 refine TL.bin hF rfl rfl rfl rfl ?_
 refine TL.nil ?_
 refine TQ.then_n ?_
 first | refine T.cond_d rfl (fun ht45=>?_) (fun ht45=>?_) | refine T.cond _ rfl (fun ht45=>?_) (fun ht45=>?_)
 ·refine T.skip ?_
  refine TQ.then_n ?_
  refine T.seq ?_
  refine T.block ?_
  refine T.region ?_
  refine TL.move hF rfl rfl ?_
  refine TL.move hF rfl rfl ?_
  refine TL.move hF rfl rfl ?_
  refine TL.move hF rfl rfl ?_
  refine TL.move hF rfl rfl ?_
  have hil:i<L.length:=by have h:(i:Int)<(L.length:Int):=ht45; omega
  have hx9:(i+t) % L.length<L.length:=Nat.mod_lt _ (by omega)
  have hd:L.getD ((i+t) % L.length) default=L[(i+t) % L.length]:=by rw [List.getD_eq_getElem?_getD,List.getElem?_eq_getElem hx9]; rfl
  obtain ⟨g,gcap,cura,hgv,rfl,_⟩:=OSl.ex ho (by omega)
  simp only [Value.slice.injEq,true_and] at hgv
  obtain ⟨rfl,rfl⟩:=hgv
  obtain ⟨cur,rfl⟩:∃ cl:List Value,cura=cl.toArray:=⟨cura.toList,(Array.toArray_toList).symm⟩
  have hol:=turnTo_len (t:=t) hi
  have ho':OSl 57 3 (.slice (some ⟨g,0,none⟩) (turnTo L t i).length uc) (turnTo L t i).length ((turnTo L t i).flatMap rwC) [(g,Obj.cells (cur).toArray 57 (0,0))]:=by rw [hol]; exact ho
  obtain ⟨hs1,hb1⟩:=rsl_row (k:=i) (x:=L[(i+t) % L.length]) ho' (by omega)
  rw [← hd,turnTo_step hil,hol] at hs1
  refine TL.callV hF (Turn_fn z1 (m:=30) (by decide)) rfl rfl ?_
  rw [ht]
  refine TL.add hF rfl rfl (by first | omega | (dsimp only; omega)) (by first | omega | (dsimp only; omega)) rfl ?_
  refine TL.move hF rfl rfl ?_
  refine TL.len hF rfl rfl ?_
  refine TL.remI hF rfl rfl (by omega) rfl ?_
  rw [show Int.tmod ((i:Int)+(t:Int)) (L.length:Int)=(((i+t) % L.length:Nat):Int) by rw [Int.tmod_eq_emod_of_nonneg (by omega)]; simp]
  refine TL.indexAddr hF rfl rfl (rr_ad hlr hx9) (by first | omega | (dsimp only; omega)) (by first | omega | (dsimp only; omega)) rfl ?_
  refine TL.loadA hF (rwC L[(i+t) % L.length]) rfl rfl (rr_at (hlr.up (by simp)) hx9) rfl ?_
  refine TL.indexAddr hF rfl rfl ⟨_,rfl,rfl⟩ (by first | omega | (dsimp only; omega)) (by first | omega | (dsimp only; omega)) rfl ?_
  refine TL.storeAs hF (rwC L[(i+t) % L.length]) (cur.take (i*3)++rwC L[(i+t) % L.length]++cur.drop (i*3+3)) 0 (cs:=cur) rfl rfl rfl rfl (rwC1 _) (by simpa [sAt,rwC_len] using hb1) (by simp [rwC_len]) ?_
  refine TL.nil ?_
  refine TQ.block_n ?_
  refine TQ.then_n ?_
  refine T.region ?_
  refine TL.move hF rfl rfl ?_
  refine TL.add hF rfl rfl (by first | omega | (dsimp only; omega)) (by first | omega | (dsimp only; omega)) rfl ?_
  refine TL.assign hF rfl rfl ?_
  refine TL.nil ?_
  exact TQ.round (i+1,[(g,Obj.cells (cur.take (i*3)++rwC L[(i+t) % L.length]++cur.drop (i*3+3)).toArray 57 (0,0))]) ⟨hil,by dsimp only; rw [← hd]; exact hs1⟩ (by dsimp only; omega) ⟨rfl,rfl,rfl,rfl,rfl,rfl,rfl,trivial⟩ rfl
 ·refine T.exit ?_
  refine TQ.then_x ?_
  refine TQ.then_x ?_
  refine TQ.block_x ?_
  refine TQ.then_n ?_
  refine T.seq ?_
  refine T.region ?_
  have hie:i=L.length:=by have h:¬ (i:Int)<(L.length:Int):=ht45; omega
  rw [hie] at ho
  clear hie hi
  obtain ⟨TU,hTU⟩:∃ TU,TU=turnTo L t L.length:=⟨_,rfl⟩
  have hTp:TU.Perm L:=by rw [hTU]; exact turnTo_all L t
  rw [← hTU] at ho
  clear hTU
  refine TL.buildSlice hF rfl (cs:=#[]) (e:=57) (fun w=>by kernel_rfl) rfl (fun b61=>?_)
  refine TL.move hF rfl rfl ?_
  refine TL.append hF 0 rfl rfl rfl osl_empty (hlr.up (by simp)).src rfl (flat3 _) (rwC_mem1 _) (by omega) (by omega) rfl (fun va vc vg vh=>?_)
  rw [Nat.zero_add,List.nil_append] at vh
  rw [Nat.zero_add]
  refine TL.assign hF rfl rfl ?_
  refine TL.nil ?_
  refine TQ.then_n ?_
  refine T.seq ?_
  refine T.seq ?_
  refine T.region ?_
  refine TL.assign hF rfl rfl ?_
  refine TL.nil ?_
  refine TQ.then_n ?_
  refine T.block ?_
  refine T.heap (η':=vg::ug::[(b9,Obj.cells (wsC s).toArray 23 (0,0))]::η) rfl ?_
  refine T.loop (ι:=Nat × List Rw × Seg) (fun z=>z.1≤L.length∧z.2.1.Perm L∧SrtR z.2.1 0 z.1∧OSl 57 3 (.slice va L.length vc) L.length (z.2.1.flatMap rwC) z.2.2) (fun z=>[(3,.int .i64 z2),(8,.bool false),(9,ptr b9),(10,.slice ra L.length rc),(11,.slice ua L.length uc),(13,.slice va L.length vc),(14,.int .i64 (z.1:Int))]) (fun z=>z.2.2::ug::[(b9,Obj.cells (wsC s).toArray 23 (0,0))]::η) (fun z=>L.length - z.1) (0,L,vg) ⟨Nat.zero_le _,List.Perm.refl _,SrtR.one (by omega),vh⟩ ⟨rfl,rfl,rfl,rfl,rfl,rfl,rfl,trivial⟩ rfl ?_
  clear vh
  rintro ⟨i,d1,vg⟩ ⟨hi,hp1,hso,hvo⟩
  dsimp only at hi hp1 hso hvo
  have hl1:=hp1.length_eq
  refine T.seq ?_
  refine T.seq ?_
  refine T.region ?_
  refine TL.move hF rfl rfl ?_
  refine TL.move hF rfl rfl ?_
  refine TL.len hF rfl rfl ?_
  refine TL.bin hF rfl rfl rfl rfl ?_
  refine TL.nil ?_
  refine TQ.then_n ?_
  first | refine T.cond_d rfl (fun ht67=>?_) (fun ht67=>?_) | refine T.cond _ rfl (fun ht67=>?_) (fun ht67=>?_)
  ·refine T.skip ?_
   refine TQ.then_n ?_
   refine T.seq ?_
   refine T.block ?_
   refine T.seq ?_
   refine T.region ?_
   refine TL.move hF rfl rfl ?_
   refine TL.assign hF rfl rfl ?_
   refine TL.nil ?_
   refine TQ.then_n ?_
   refine T.block ?_
   have hil:i<L.length:=by have h:(i:Int)<(L.length:Int):=ht67; omega
   refine T.loop (ι:=Nat × List Rw × Seg) (fun z=>z.1≤i∧InsD d1 z.2.1 z.1 i∧z.2.1.Perm d1∧(∀ x,z.1≤x→x<i→tmA d1 i≤tmA d1 x)∧OSl 57 3 (.slice va L.length vc) L.length (z.2.1.flatMap rwC) z.2.2) (fun z=>[(3,.int .i64 z2),(8,.bool false),(9,ptr b9),(10,.slice ra L.length rc),(11,.slice ua L.length uc),(13,.slice va L.length vc),(14,.int .i64 (i:Int)),(15,.int .i64 (z.1:Int))]) (fun z=>z.2.2::ug::[(b9,Obj.cells (wsC s).toArray 23 (0,0))]::η) (fun z=>z.1) (i,d1,vg) ⟨Nat.le_refl _,InsD.start,List.Perm.refl _,fun x h1 h2=>by dsimp only at h1; omega,hvo⟩ ⟨rfl,rfl,rfl,rfl,rfl,rfl,rfl,rfl,trivial⟩ rfl ?_
   clear hvo
   rintro ⟨k,d2,vg⟩ ⟨hki,hins,hp2,hlow,hvo⟩
   dsimp only at hki hins hp2 hlow hvo
   have hl2:=hp2.length_eq
   have hrw:RRow S1 w1 (vg::ug::[(b9,Obj.cells (wsC s).toArray 23 (0,0))]::η) va d2:=hvo.row List.mem_cons_self
   refine T.seq ?_
   refine T.seq ?_
   by_cases hk0:0<k
   ·refine T.draw ?_
    refine DR.stepV [_] rfl [(15,_,none)] rfl rfl ⟨⟨rfl,by kernel_rfl⟩,trivial⟩ (fun ext=>TL.move hF rfl rfl TL.fin) ?_
    refine DR.stepV [_,_] rfl [(71,_,some 0)] rfl rfl ⟨⟨rfl,rfl,rfl⟩,trivial⟩ (fun ext=>TL.bin hF rfl rfl rfl rfl TL.fin) ?_
    refine DR.stepV [_,_,_] rfl [(72,_,some 1)] rfl rfl ⟨⟨rfl,rfl,rfl⟩,trivial⟩ (fun ext=>TL.move hF rfl rfl TL.fin) ?_
    refine DR.stepV [_,_,_,_] rfl [(13,_,none),(73,_,some 2)] rfl rfl ⟨⟨rfl,by kernel_rfl⟩,⟨rfl,rfl,rfl⟩,trivial⟩ (fun ext=>TL.on rfl rfl rfl (by simp; omega) <| TL.move hF rfl rfl TL.fin) ?_
    refine DR.stepV [_,_,_,_,_] rfl [(15,_,none),(73,_,some 2)] rfl rfl ⟨⟨rfl,by kernel_rfl⟩,⟨rfl,rfl,rfl⟩,trivial⟩ (fun ext=>TL.on rfl rfl rfl (by simp; omega) <| TL.move hF rfl rfl TL.fin) ?_
    refine DR.stepV [_,_,_,_,_,_] rfl [(74,_,some 3),(75,_,some 4),(73,_,some 2)] rfl rfl ⟨⟨rfl,rfl,rfl⟩,⟨rfl,rfl,rfl⟩,⟨rfl,rfl,rfl⟩,trivial⟩ (fun ext=>TL.on rfl rfl rfl (by simp; omega) <| TL.indexAddr hF rfl rfl (rr_ad hrw (i:=k) (by omega)) (by first | omega | (dsimp only; omega)) (by first | omega | (dsimp only; omega)) rfl TL.fin) ?_
    refine DR.stepV [_,_,_,_,_,_,_] rfl [(76,_,some 5),(73,_,some 2)] rfl rfl ⟨⟨rfl,rfl,rfl⟩,⟨rfl,rfl,rfl⟩,trivial⟩ (fun ext=>TL.on rfl rfl rfl (by simp; omega) <| TL.fieldAddr hF rfl rfl TL.fin) ?_
    refine DR.stepV [_,_,_,_,_,_,_,_] rfl [(77,_,some 6),(73,_,some 2)] rfl rfl ⟨⟨rfl,rfl,rfl⟩,⟨rfl,rfl,rfl⟩,trivial⟩ (fun ext=>TL.on rfl rfl rfl (by simp; omega) <| TL.load hF rfl (rr_at hrw (i:=k) (by omega) 0 _ rfl) rfl TL.fin) ?_
    refine DR.stepV [_,_,_,_,_,_,_,_,_] rfl [(13,_,none),(73,_,some 2)] rfl rfl ⟨⟨rfl,by kernel_rfl⟩,⟨rfl,rfl,rfl⟩,trivial⟩ (fun ext=>TL.on rfl rfl rfl (by simp; omega) <| TL.move hF rfl rfl TL.fin) ?_
    refine DR.stepV [_,_,_,_,_,_,_,_,_,_] rfl [(15,_,none),(73,_,some 2)] rfl rfl ⟨⟨rfl,by kernel_rfl⟩,⟨rfl,rfl,rfl⟩,trivial⟩ (fun ext=>TL.on rfl rfl rfl (by simp; omega) <| TL.move hF rfl rfl TL.fin) ?_
    refine DR.stepV [_,_,_,_,_,_,_,_,_,_,_] rfl [(80,_,some 9),(73,_,some 2)] rfl rfl ⟨⟨rfl,rfl,rfl⟩,⟨rfl,rfl,rfl⟩,trivial⟩ (fun ext=>TL.on rfl rfl rfl (by simp; omega) <| TL.sub hF rfl rfl (by first | omega | (dsimp only; omega)) (by first | omega | (dsimp only; omega)) rfl TL.fin) ?_
    refine DR.stepV [_,_,_,_,_,_,_,_,_,_,_,_] rfl [(79,_,some 8),(81,_,some 10),(73,_,some 2)] rfl rfl ⟨⟨rfl,rfl,rfl⟩,⟨rfl,rfl,rfl⟩,⟨rfl,rfl,rfl⟩,trivial⟩ (fun ext=>TL.on rfl rfl rfl (by simp; omega) <| TL.indexAddr hF rfl rfl (rr_ad hrw (i:=k - 1) (by omega)) (by first | omega | (dsimp only; omega)) (by first | omega | (dsimp only; omega)) rfl TL.fin) ?_
    refine DR.stepV [_,_,_,_,_,_,_,_,_,_,_,_,_] rfl [(82,_,some 11),(73,_,some 2)] rfl rfl ⟨⟨rfl,rfl,rfl⟩,⟨rfl,rfl,rfl⟩,trivial⟩ (fun ext=>TL.on rfl rfl rfl (by simp; omega) <| TL.fieldAddr hF rfl rfl TL.fin) ?_
    refine DR.stepV [_,_,_,_,_,_,_,_,_,_,_,_,_,_] rfl [(83,_,some 12),(73,_,some 2)] rfl rfl ⟨⟨rfl,rfl,rfl⟩,⟨rfl,rfl,rfl⟩,trivial⟩ (fun ext=>TL.on rfl rfl rfl (by simp; omega) <| TL.load hF rfl (show At _ _ _ _ (.int .i64 d2[k - 1].time) by rw [show ((k:Int)-1).toNat=k - 1 by omega]; exact rr_at hrw (i:=k - 1) (by omega) 0 _ rfl) rfl TL.fin) ?_
    refine DR.done [(84,_),(83,_),(82,_),(81,_),(80,_),(79,_),(78,_),(77,_),(76,_),(75,_),(74,_),(73,_),(72,_),(71,_)] [_,_] mixed (by kernel_rfl) (by kernel_rfl) (by kernel_rfl) rfl rfl ?_
    refine TL.on rfl rfl rfl (by simp; omega) ?_
    refine TL.bin hF rfl rfl rfl rfl ?_
    refine TL.pickT hF rfl (by simp; omega) rfl rfl ?_
    refine TL.nil ?_
    refine TQ.then_n ?_
    refine T.cond_d rfl (fun ht86=>?_) (fun ht86=>?_)
    ·refine T.skip ?_
     refine TQ.then_n ?_
     refine T.seq ?_
     refine T.block ?_
     refine T.seq ?_
     refine T.region ?_
     refine TL.move hF rfl rfl ?_
     refine TL.move hF rfl rfl ?_
     refine TL.indexAddr hF rfl rfl (rr_ad hrw (i:=k) (by omega)) (by first | omega | (dsimp only; omega)) (by first | omega | (dsimp only; omega)) rfl ?_
     refine TL.loadA hF (rwC d2[k]) rfl rfl (rr_at hrw (i:=k) (by omega)) rfl ?_
     refine TL.alloc hF rfl (fun b16=>?_)
     refine TL.storeAs hF (rwC d2[k]) (rwC d2[k]) 0 (cs:=[.int .i64 0,.int .i64 0,.int .i64 0]) rfl rfl rfl rfl (rwC1 _) (Nat.le_refl 3) rfl ?_
     refine TL.nil ?_
     refine TQ.then_n ?_
     refine T.heap (η':=[(b16,Obj.cells (rwC d2[k]).toArray 57 (0,0))]::vg::ug::[(b9,Obj.cells (wsC s).toArray 23 (0,0))]::η) rfl ?_
     obtain ⟨g,gcap,cura,hgv,rfl,_⟩:=OSl.ex hvo (by omega)
     simp only [Value.slice.injEq,true_and] at hgv
     obtain ⟨rfl,rfl⟩:=hgv
     obtain ⟨cur,rfl⟩:∃ cl:List Value,cura=cl.toArray:=⟨cura.toList,(Array.toArray_toList).symm⟩
     have hrw2:RRow S1 w1 ([(b16,Obj.cells (rwC d2[k]).toArray 57 (0,0))]::[(g,Obj.cells (cur).toArray 57 (0,0))]::ug::[(b9,Obj.cells (wsC s).toArray 23 (0,0))]::η) (some ⟨g,0,none⟩) d2:=hvo.row (List.mem_cons_of_mem _ List.mem_cons_self)
     have hvo':OSl 57 3 (.slice (some ⟨g,0,none⟩) d2.length vc) d2.length (d2.flatMap rwC) [(g,Obj.cells (cur).toArray 57 (0,0))]:=by rw [hl2,hl1]; exact hvo
     obtain ⟨hs1,hb1⟩:=rsl_row (k:=k) (x:=d2[k - 1]) hvo' (by omega)
     have hs1':OSl 57 3 (.slice (some ⟨g,0,none⟩) (d2.set k d2[k - 1]).length vc) (d2.set k d2[k - 1]).length ((d2.set k d2[k - 1]).flatMap rwC) [(g,Obj.cells (cur.take (k*3)++rwC d2[k - 1]++cur.drop (k*3+3)).toArray 57 (0,0))]:=by rw [List.length_set]; exact hs1
     obtain ⟨hs2,hb2⟩:=rsl_row (k:=k - 1) (x:=d2[k]) hs1' (by rw [List.length_set]; omega)
     have hsw:=swp_two (d:=d2) (k:=k) (by omega) hk0
     have e9:(d2.set k d2[k - 1]).length=L.length:=by rw [List.length_set,hl2,hl1]
     rw [hsw,e9] at hs2
     refine T.drawH 13 mixed ?_
     refine DH.pure (i:=0) [(13,_,none)] rfl rfl rfl rfl ⟨⟨rfl,by kernel_rfl⟩,trivial⟩ (fun _ ext=>TL.move hF rfl rfl TL.fin) ?_
     refine DH.pure (i:=1) [(15,_,none)] rfl rfl rfl rfl ⟨⟨rfl,by kernel_rfl⟩,trivial⟩ (fun _ ext=>TL.move hF rfl rfl TL.fin) ?_
     refine DH.pure (i:=2) [(13,_,none)] rfl rfl rfl rfl ⟨⟨rfl,by kernel_rfl⟩,trivial⟩ (fun _ ext=>TL.move hF rfl rfl TL.fin) ?_
     refine DH.pure (i:=3) [(15,_,none)] rfl rfl rfl rfl ⟨⟨rfl,by kernel_rfl⟩,trivial⟩ (fun _ ext=>TL.move hF rfl rfl TL.fin) ?_
     refine DH.pure (i:=4) [(96,_,some 3)] rfl rfl rfl rfl ⟨⟨rfl,rfl,rfl⟩,trivial⟩ (fun _ ext=>TL.sub hF rfl rfl (by first | omega | (dsimp only; omega)) (by first | omega | (dsimp only; omega)) rfl TL.fin) ?_
     refine DH.pure (i:=5) [(13,_,none)] rfl rfl rfl rfl ⟨⟨rfl,by kernel_rfl⟩,trivial⟩ (fun _ ext=>TL.move hF rfl rfl TL.fin) ?_
     refine DH.pure (i:=6) [(15,_,none)] rfl rfl rfl rfl ⟨⟨rfl,by kernel_rfl⟩,trivial⟩ (fun _ ext=>TL.move hF rfl rfl TL.fin) ?_
     refine DH.pure (i:=7) [(99,_,some 6)] rfl rfl rfl rfl ⟨⟨rfl,rfl,rfl⟩,trivial⟩ (fun _ ext=>TL.sub hF rfl rfl (by first | omega | (dsimp only; omega)) (by first | omega | (dsimp only; omega)) rfl TL.fin) ?_
     refine DH.pure (i:=8) [(98,_,some 5),(100,_,some 7)] rfl rfl rfl rfl ⟨⟨rfl,rfl,rfl⟩,⟨rfl,rfl,rfl⟩,trivial⟩ (fun _ ext=>TL.indexAddr hF rfl rfl (rr_ad hrw2 (i:=k - 1) (by omega)) (by first | omega | (dsimp only; omega)) (by first | omega | (dsimp only; omega)) rfl TL.fin) ?_
     refine DH.read (i:=9) [(101,_,some 8)] rfl rfl rfl rfl ⟨⟨rfl,rfl,rfl⟩,trivial⟩ (fun ext=>TL.loadA hF (rwC d2[k - 1]) rfl rfl (by rw [show ((k:Int)-1).toNat=k - 1 by omega]; exact rr_at hrw2 (i:=k - 1) (by omega)) rfl TL.fin) ?_
     refine DH.read (i:=10) [(16,_,none)] rfl rfl rfl rfl ⟨⟨rfl,by kernel_rfl⟩,trivial⟩ (fun ext=>TL.loadA hF (rwC d2[k]) rfl rfl (own_listM (b:=b16) (cs:=rwC d2[k]) (e:=57) (fz:=(0,0)) (by simp)) rfl TL.fin) ?_
     refine DH.pure (i:=11) [(93,_,some 0),(94,_,some 1)] rfl rfl rfl rfl ⟨⟨rfl,rfl,rfl⟩,⟨rfl,rfl,rfl⟩,trivial⟩ (fun _ ext=>TL.indexAddr hF rfl rfl ⟨_,rfl,rfl⟩ (by first | omega | (dsimp only; omega)) (by first | omega | (dsimp only; omega)) rfl TL.fin) ?_
     refine DH.k1 (by kernel_rfl) (by kernel_rfl) (by kernel_rfl) (by kernel_rfl) (HBK.mk (h:=12) [10] [(104,_,some 11),(102,_,some 9)] rfl rfl rfl ⟨⟨rfl,rfl,rfl⟩,⟨rfl,rfl,rfl⟩,trivial⟩ (by kernel_rfl) (fun ext=>?_))
     refine TL.storeAs hF (rwC d2[k - 1]) (cur.take (k*3)++rwC d2[k - 1]++cur.drop (k*3+3)) 1 (cs:=cur) rfl rfl rfl rfl (rwC1 _) (by simpa [sAt,rwC_len] using hb1) (by simp [rwC_len]) ?_
     refine TL.finKN ⟨⟨_,rfl,_,_,[(16,_,none)],rfl,rfl,⟨⟨rfl,by kernel_rfl⟩,trivial⟩,fun ext=>TL.loadA hF (rwC d2[k]) rfl rfl (own_listM (b:=b16) (cs:=rwC d2[k]) (e:=57) (fz:=(0,0)) (by simp)) rfl TL.fin⟩,trivial⟩ ?_
     refine DH.done [(104,_),(103,_),(102,_),(101,_),(100,_),(99,_),(98,_),(97,_),(96,_),(95,_),(94,_),(93,_)] [_,_] (by kernel_rfl) (by kernel_rfl) (by kernel_rfl) (by kernel_rfl) rfl rfl ?_
     refine TL.indexAddr hF rfl rfl ⟨_,rfl,rfl⟩ (by first | omega | (dsimp only; omega)) (by first | omega | (dsimp only; omega)) rfl ?_
     have hsub:((k:Int)-1).toNat=k - 1:=by omega
     refine TL.storeAs hF (rwC d2[k]) ((cur.take (k*3)++rwC d2[k - 1]++cur.drop (k*3+3)).take ((k - 1)*3)++rwC d2[k]++(cur.take (k*3)++rwC d2[k - 1]++cur.drop (k*3+3)).drop ((k - 1)*3+3)) 1 (cs:=cur.take (k*3)++rwC d2[k - 1]++cur.drop (k*3+3)) rfl rfl rfl rfl (rwC1 _) (by rw [hsub]; simpa [sAt,rwC_len] using hb2) (by rw [hsub]; simp [rwC_len]) ?_
     refine TL.nil ?_
     refine TQ.block_n ?_
     refine TQ.then_n ?_
     refine T.region ?_
     refine TL.move hF rfl rfl ?_
     refine TL.sub hF rfl rfl (by first | omega | (dsimp only; omega)) (by first | omega | (dsimp only; omega)) rfl ?_
     refine TL.assign hF rfl rfl ?_
     refine TL.nil ?_
     have hlt:tmA d1 i<tmA d1 (k - 1):=by
      have h:d2[k].time<d2[k - 1].time:=ht86
      rw [tmA_eq (show k<d2.length by omega),tmA_eq (show k - 1<d2.length by omega)] at h
      have h1:=hins.tm k
      have h2:=hins.tm (k - 1)
      rw [if_neg (by omega),if_pos rfl] at h1
      rw [if_neg (by omega),if_neg (by omega)] at h2
      rw [← h1,← h2]; exact h
     refine TQ.pop ?_
     refine TQ.round (k - 1,swp d2 k (k - 1),[(g,Obj.cells ((cur.take (k*3)++rwC d2[k - 1]++cur.drop (k*3+3)).take ((k - 1)*3)++rwC d2[k]++(cur.take (k*3)++rwC d2[k - 1]++cur.drop (k*3+3)).drop ((k - 1)*3+3)).toArray 57 (0,0))]) ⟨by dsimp only; omega,hins.step (by omega) hki (by omega),(swp_perm (by omega) (by omega)).trans hp2,fun x h1 h2=>?_,hs2⟩ (by dsimp only; omega) ⟨rfl,rfl,rfl,rfl,rfl,rfl,rfl,congrArg (fun z=>some (Value.int .i64 z)) (by dsimp only; omega),trivial⟩ rfl
     dsimp only at h1
     rcases Nat.lt_or_ge x k with q | q
     ·rw [show x=k - 1 by omega]; omega
     ·exact hlow x q h2
    ·refine T.exit ?_
     refine TQ.then_x ?_
     refine TQ.then_x ?_
     refine TQ.block_x ?_
     refine TQ.block_n ?_
     refine TQ.then_n ?_
     refine T.region ?_
     refine TL.move hF rfl rfl ?_
     refine TL.add hF rfl rfl (by first | omega | (dsimp only; omega)) (by first | omega | (dsimp only; omega)) rfl ?_
     refine TL.assign hF rfl rfl ?_
     refine TL.nil ?_
     have hlo:tmA d1 (k - 1)≤tmA d1 i:=by
      have h:¬ d2[k].time<d2[k - 1].time:=ht86
      rw [tmA_eq (show k<d2.length by omega),tmA_eq (show k - 1<d2.length by omega)] at h
      have h1:=hins.tm k
      have h2:=hins.tm (k - 1)
      rw [if_neg (by omega),if_pos rfl] at h1
      rw [if_neg (by omega),if_neg (by omega)] at h2
      rw [← h1,← h2]; omega
     exact TQ.round (i+1,d2,vg) ⟨hil,hp2.trans hp1,srt_insD hso hins (Nat.zero_le _) hki (.inr hlo) hlow,hvo⟩ (by dsimp only; omega) ⟨rfl,rfl,rfl,rfl,rfl,rfl,rfl,trivial⟩ rfl
   ·refine T.draw ?_
    refine DR.stepV [_] rfl [(15,_,none)] rfl rfl ⟨⟨rfl,by kernel_rfl⟩,trivial⟩ (fun ext=>TL.move hF rfl rfl TL.fin) ?_
    refine DR.stepV [_,_] rfl [(71,_,some 0)] rfl rfl ⟨⟨rfl,rfl,rfl⟩,trivial⟩ (fun ext=>TL.bin hF rfl rfl rfl rfl TL.fin) ?_
    refine DR.stepV [_,_,_] rfl [(72,_,some 1)] rfl rfl ⟨⟨rfl,rfl,rfl⟩,trivial⟩ (fun ext=>TL.move hF rfl rfl TL.fin) ?_
    refine DR.stepV [_,_,_,_] rfl [(13,_,none),(73,_,some 2)] rfl rfl ⟨⟨rfl,by kernel_rfl⟩,⟨rfl,rfl,rfl⟩,trivial⟩ (fun ext=>TL.off hF rfl rfl rfl (by simp; omega) rfl TL.fin) ?_
    refine DR.stepV [_,_,_,_,_] rfl [(15,_,none),(73,_,some 2)] rfl rfl ⟨⟨rfl,by kernel_rfl⟩,⟨rfl,rfl,rfl⟩,trivial⟩ (fun ext=>TL.off hF rfl rfl rfl (by simp; omega) rfl TL.fin) ?_
    refine DR.stepV [_,_,_,_,_,_] rfl [(74,_,some 3),(75,_,some 4),(73,_,some 2)] rfl rfl ⟨⟨rfl,rfl,rfl⟩,⟨rfl,rfl,rfl⟩,⟨rfl,rfl,rfl⟩,trivial⟩ (fun ext=>TL.off hF rfl rfl rfl (by simp; omega) rfl TL.fin) ?_
    refine DR.stepV [_,_,_,_,_,_,_] rfl [(76,_,some 5),(73,_,some 2)] rfl rfl ⟨⟨rfl,rfl,rfl⟩,⟨rfl,rfl,rfl⟩,trivial⟩ (fun ext=>TL.off hF rfl rfl rfl (by simp; omega) rfl TL.fin) ?_
    refine DR.stepV [_,_,_,_,_,_,_,_] rfl [(77,_,some 6),(73,_,some 2)] rfl rfl ⟨⟨rfl,rfl,rfl⟩,⟨rfl,rfl,rfl⟩,trivial⟩ (fun ext=>TL.off hF rfl rfl rfl (by simp; omega) rfl TL.fin) ?_
    refine DR.stepV [_,_,_,_,_,_,_,_,_] rfl [(13,_,none),(73,_,some 2)] rfl rfl ⟨⟨rfl,by kernel_rfl⟩,⟨rfl,rfl,rfl⟩,trivial⟩ (fun ext=>TL.off hF rfl rfl rfl (by simp; omega) rfl TL.fin) ?_
    refine DR.stepV [_,_,_,_,_,_,_,_,_,_] rfl [(15,_,none),(73,_,some 2)] rfl rfl ⟨⟨rfl,by kernel_rfl⟩,⟨rfl,rfl,rfl⟩,trivial⟩ (fun ext=>TL.off hF rfl rfl rfl (by simp; omega) rfl TL.fin) ?_
    refine DR.stepV [_,_,_,_,_,_,_,_,_,_,_] rfl [(80,_,some 9),(73,_,some 2)] rfl rfl ⟨⟨rfl,rfl,rfl⟩,⟨rfl,rfl,rfl⟩,trivial⟩ (fun ext=>TL.off hF rfl rfl rfl (by simp; omega) rfl TL.fin) ?_
    refine DR.stepV [_,_,_,_,_,_,_,_,_,_,_,_] rfl [(79,_,some 8),(81,_,some 10),(73,_,some 2)] rfl rfl ⟨⟨rfl,rfl,rfl⟩,⟨rfl,rfl,rfl⟩,⟨rfl,rfl,rfl⟩,trivial⟩ (fun ext=>TL.off hF rfl rfl rfl (by simp; omega) rfl TL.fin) ?_
    refine DR.stepV [_,_,_,_,_,_,_,_,_,_,_,_,_] rfl [(82,_,some 11),(73,_,some 2)] rfl rfl ⟨⟨rfl,rfl,rfl⟩,⟨rfl,rfl,rfl⟩,trivial⟩ (fun ext=>TL.off hF rfl rfl rfl (by simp; omega) rfl TL.fin) ?_
    refine DR.stepV [_,_,_,_,_,_,_,_,_,_,_,_,_,_] rfl [(83,_,some 12),(73,_,some 2)] rfl rfl ⟨⟨rfl,rfl,rfl⟩,⟨rfl,rfl,rfl⟩,trivial⟩ (fun ext=>TL.off hF rfl rfl rfl (by simp; omega) rfl TL.fin) ?_
    refine DR.done [(84,_),(83,_),(82,_),(81,_),(80,_),(79,_),(78,_),(77,_),(76,_),(75,_),(74,_),(73,_),(72,_),(71,_)] [_,_] mixed (by kernel_rfl) (by kernel_rfl) (by kernel_rfl) rfl rfl ?_
    refine TL.off hF rfl rfl rfl (by simp; omega) rfl ?_
    refine TL.pickF hF rfl (by simp; omega) rfl rfl ?_
    refine TL.nil ?_
    refine TQ.then_n ?_
    refine T.cond_f rfl rfl ?_
    refine T.exit ?_
    refine TQ.then_x ?_
    refine TQ.then_x ?_
    refine TQ.block_x ?_
    refine TQ.block_n ?_
    refine TQ.then_n ?_
    refine T.region ?_
    refine TL.move hF rfl rfl ?_
    refine TL.add hF rfl rfl (by first | omega | (dsimp only; omega)) (by first | omega | (dsimp only; omega)) rfl ?_
    refine TL.assign hF rfl rfl ?_
    refine TL.nil ?_
    exact TQ.round (i+1,d2,vg) ⟨hil,hp2.trans hp1,srt_insD hso hins (Nat.zero_le _) hki (.inl (by omega)) hlow,hvo⟩ (by dsimp only; omega) ⟨rfl,rfl,rfl,rfl,rfl,rfl,rfl,trivial⟩ rfl
  ·refine T.exit ?_
   refine TQ.then_x ?_
   refine TQ.then_x ?_
   refine TQ.block_x ?_
   refine TQ.then_n ?_
   refine T.seq ?_
   refine T.region ?_
   have hie:i=L.length:=by have h:¬ (i:Int)<(L.length:Int):=ht67; omega
   rw [hie] at hso
   clear hie hi
   obtain ⟨D,hDe⟩:∃ D,D=d1:=⟨_,rfl⟩
   rw [← hDe] at hp1 hso hvo
   have hDl:D.length=L.length:=hp1.length_eq
   have hTl:TU.length=L.length:=hTp.length_eq
   rw [← hDl] at hso
   have hDw:=srt_pw hso
   have htu:RRow S1 w1 [vg,ug] ua TU:=ho.row (by simp)
   have hdr:RRow S1 w1 [vg,ug] va D:=hvo.row (by simp)
   have huc:=osl_cap ho
   have hvc:=osl_cap hvo
   have hqT:=askd_perm hq hTp
   have hqD:=askd_perm hq hp1
   have heT:allS s TU=allS s L:=all_perm hq.w hTp hqT.ws
   have heD:allS s D=allS s L:=all_perm hq.w hp1 hqD.ws
   refine TL.freeze ([vg,ug]) rfl (fun S2 w2 hz2=>?_)
   replace hb:=hb.frz hz2
   replace hT:=hT.old hz2
   replace hlr:=hlr.old hz2
   replace htu:=htu.frz hz2
   replace hdr:=hdr.frz hz2
   refine TL.loadA hF (wsC s) rfl rfl (own_listM (b:=b9) (cs:=wsC s) (e:=23) (fz:=(0,0)) (by simp)) rfl ?_
   refine TL.move hF rfl rfl ?_
   have hcall:=Whole_fn (η:=[(b9,Obj.cells (wsC s).toArray 23 (0,0))]::η) hT s (l:=L) (c:=rc) hlr (by omega) (by omega)
   refine TL.call hF hcall rfl rfl ?_
   rintro _ _ ⟨ah3,ch3,segs,rfl,h3,rfl⟩
   rw [wholeS_of hq] at h3 ⊢
   dsimp only at h3 ⊢
   refine TL.freeze (segs) rfl (fun S3 w3 hz3=>?_)
   replace hb:=hb.frz hz3
   replace hT:=hT.old hz3
   replace hlr:=hlr.old hz3
   replace htu:=htu.old hz3
   replace hdr:=hdr.old hz3
   replace h3:=h3.frz hz3
   refine TL.move hF rfl rfl ?_
   refine TL.extract hF rfl rfl rfl ?_
   refine TL.extract hF rfl rfl rfl ?_
   refine TL.assign hF rfl rfl ?_
   refine TL.assign hF rfl rfl ?_
   refine TL.nil ?_
   refine TQ.then_n ?_
   refine T.seq ?_
   refine T.region ?_
   refine TL.loadA hF (wsC s) rfl rfl (own_listM (b:=b9) (cs:=wsC s) (e:=23) (fz:=(0,0)) (by simp)) rfl ?_
   refine TL.move hF rfl rfl ?_
   have hcall:=Whole_fn (η:=[(b9,Obj.cells (wsC s).toArray 23 (0,0))]::η) hT s (l:=TU) (c:=uc) htu (by omega) (by omega)
   rw [hTl] at hcall
   refine TL.call hF hcall rfl rfl ?_
   rintro _ _ ⟨ah4,ch4,segs,rfl,h4,rfl⟩
   rw [wholeS_of hqT,heT] at h4 ⊢
   dsimp only at h4 ⊢
   refine TL.freeze (segs) rfl (fun S4 w4 hz4=>?_)
   replace hb:=hb.frz hz4
   replace hT:=hT.old hz4
   replace hlr:=hlr.old hz4
   replace htu:=htu.old hz4
   replace hdr:=hdr.old hz4
   replace h3:=h3.old hz4
   replace h4:=h4.frz hz4
   refine TL.move hF rfl rfl ?_
   refine TL.extract hF rfl rfl rfl ?_
   refine TL.extract hF rfl rfl rfl ?_
   refine TL.assign hF rfl rfl ?_
   refine TL.assign hF rfl rfl ?_
   refine TL.nil ?_
   refine TQ.then_n ?_
   refine T.seq ?_
   refine T.region ?_
   refine TL.loadA hF (wsC s) rfl rfl (own_listM (b:=b9) (cs:=wsC s) (e:=23) (fz:=(0,0)) (by simp)) rfl ?_
   refine TL.move hF rfl rfl ?_
   have hcall:=Whole_fn (η:=[(b9,Obj.cells (wsC s).toArray 23 (0,0))]::η) hT s (l:=D) (c:=vc) hdr (by omega) (by omega)
   rw [hDl] at hcall
   refine TL.call hF hcall rfl rfl ?_
   rintro _ _ ⟨ah5,ch5,segs,rfl,h5,rfl⟩
   rw [wholeS_of hqD,heD] at h5 ⊢
   dsimp only at h5 ⊢
   refine TL.freeze (segs) rfl (fun S5 w5 hz5=>?_)
   replace hb:=hb.frz hz5
   replace hT:=hT.old hz5
   replace hlr:=hlr.old hz5
   replace htu:=htu.old hz5
   replace hdr:=hdr.old hz5
   replace h3:=h3.old hz5
   replace h4:=h4.old hz5
   replace h5:=h5.frz hz5
   refine TL.move hF rfl rfl ?_
   refine TL.extract hF rfl rfl rfl ?_
   refine TL.extract hF rfl rfl rfl ?_
   refine TL.assign hF rfl rfl ?_
   refine TL.assign hF rfl rfl ?_
   refine TL.nil ?_
   refine TQ.then_n ?_
   refine T.seq ?_
   refine T.region ?_
   refine TL.loadA hF (wsC s) rfl rfl (own_listM (b:=b9) (cs:=wsC s) (e:=23) (fz:=(0,0)) (by simp)) rfl ?_
   refine TL.move hF rfl rfl ?_
   have hcall:=Play_fn (η:=[(b9,Obj.cells (wsC s).toArray 23 (0,0))]::η) hT s (l:=D) (c:=vc) hdr (by omega)
   rw [hDl] at hcall
   refine TL.call hF hcall rfl rfl ?_
   rintro _ _ ⟨lah6,lch6,xs,oah6,och6,segs,rfl,hmh6,h6,_,rfl⟩
   rw [playS_of hqD] at hmh6 ⊢
   dsimp only at hmh6 ⊢
   refine TL.freeze (segs) rfl (fun S6 w6 hz6=>?_)
   replace hb:=hb.frz hz6
   replace hT:=hT.old hz6
   replace hlr:=hlr.old hz6
   replace htu:=htu.old hz6
   replace hdr:=hdr.old hz6
   replace h3:=h3.old hz6
   replace h4:=h4.old hz6
   replace h5:=h5.old hz6
   replace h6:=h6.frz hz6
   obtain ⟨hlh6,hsh6⟩:=steps_of hmh6
   refine TL.move hF rfl rfl ?_
   refine TL.extract hF rfl rfl rfl ?_
   refine TL.extract hF rfl rfl rfl ?_
   refine TL.extract hF rfl rfl rfl ?_
   refine TL.assign hF rfl rfl ?_
   refine TL.assign hF rfl rfl ?_
   refine TL.assign hF rfl rfl ?_
   refine TL.nil ?_
   refine TQ.then_n ?_
   refine T.seq ?_
   refine T.seq ?_
   refine T.region ?_
   refine TL.move hF rfl rfl ?_
   refine TL.bin hF rfl rfl rfl rfl ?_
   refine TL.move hF rfl rfl ?_
   refine TL.on rfl rfl rfl (by decide) ?_
   refine TL.move hF rfl rfl ?_
   refine TL.on rfl rfl rfl (by decide) ?_
   refine TL.bin hF rfl rfl rfl rfl ?_
   refine TL.pickF hF rfl (by decide) rfl rfl ?_
   refine TL.move hF rfl rfl ?_
   refine TL.on rfl rfl rfl (by decide) ?_
   refine TL.move hF rfl rfl ?_
   refine TL.on rfl rfl rfl (by decide) ?_
   refine TL.bin hF rfl rfl rfl rfl ?_
   refine TL.pickF hF rfl (by decide) rfl rfl ?_
   refine TL.move hF rfl rfl ?_
   refine TL.on rfl rfl rfl (by decide) ?_
   refine TL.move hF rfl rfl ?_
   refine TL.on rfl rfl rfl (by decide) ?_
   refine TL.bin hF rfl rfl rfl rfl ?_
   refine TL.pickF hF rfl (by decide) rfl rfl ?_
   refine TL.move hF rfl rfl ?_
   refine TL.on rfl rfl rfl (by decide) ?_
   refine TL.move hF rfl rfl ?_
   refine TL.on rfl rfl rfl (by decide) ?_
   refine TL.move hF rfl rfl ?_
   refine TL.on rfl rfl rfl (by decide) ?_
   refine TL.callV hF (outs_fn (l:=allS s L) (m:=allS s L) (h3.up (by simp)) (h4.up (by simp)) (by omega)) rfl rfl ?_
   refine TL.on rfl rfl rfl (by decide) ?_
   refine TL.not hF rfl rfl ?_
   refine TL.pickF hF rfl (by decide) rfl rfl ?_
   refine TL.move hF rfl rfl ?_
   refine TL.on rfl rfl rfl (by simp) ?_
   refine TL.move hF rfl rfl ?_
   refine TL.on rfl rfl rfl (by simp) ?_
   refine TL.move hF rfl rfl ?_
   refine TL.on rfl rfl rfl (by simp) ?_
   refine TL.callV hF (outs_fn (l:=allS s L) (m:=allS s L) (h3.up (by simp)) (h5.up (by simp)) (by omega)) rfl rfl ?_
   refine TL.on rfl rfl rfl (by simp) ?_
   refine TL.not hF rfl rfl ?_
   refine TL.pickF hF rfl (by simp) rfl rfl ?_
   refine TL.move hF rfl rfl ?_
   refine TL.on rfl rfl rfl (by simp) ?_
   refine TL.move hF rfl rfl ?_
   refine TL.on rfl rfl rfl (by simp) ?_
   refine TL.len hF rfl rfl ?_
   refine TL.on rfl rfl rfl (by simp) ?_
   refine TL.move hF rfl rfl ?_
   refine TL.on rfl rfl rfl (by simp) ?_
   refine TL.len hF rfl rfl ?_
   refine TL.on rfl rfl rfl (by simp) ?_
   refine TL.bin hF rfl rfl rfl rfl ?_
   refine TL.pickF hF rfl (by simp) rfl rfl ?_
   refine TL.nil ?_
   refine TQ.then_n ?_
   refine T.cond_f rfl (by rw [hlh6,hDl]; simp) ?_
   refine T.skip ?_
   refine TQ.then_n ?_
   refine T.seq ?_
   refine T.seq ?_
   refine T.region ?_
   refine TL.assign hF rfl rfl ?_
   refine TL.nil ?_
   refine TQ.then_n ?_
   refine T.block ?_
   refine T.loop (ι:=Nat) (fun i=>i≤xs.length) (fun i=>[(3,.int .i64 z2),(8,.bool false),(9,ptr b9),(10,.slice ra L.length rc),(23,.slice lah6 xs.length lch6),(26,.int .i64 (i:Int))]) (fun _=>[(b9,Obj.cells (wsC s).toArray 23 (0,0))]::η) (fun i=>xs.length - i) 0 (Nat.zero_le _) ⟨rfl,rfl,rfl,rfl,rfl,rfl,trivial⟩ rfl ?_
   rintro i hi
   refine T.seq ?_
   refine T.seq ?_
   refine T.region ?_
   refine TL.move hF rfl rfl ?_
   refine TL.move hF rfl rfl ?_
   refine TL.len hF rfl rfl ?_
   refine TL.bin hF rfl rfl rfl rfl ?_
   refine TL.nil ?_
   refine TQ.then_n ?_
   first | refine T.cond_d rfl (fun ht167=>?_) (fun ht167=>?_) | refine T.cond _ rfl (fun ht167=>?_) (fun ht167=>?_)
   ·refine T.skip ?_
    refine TQ.then_n ?_
    refine T.seq ?_
    refine T.block ?_
    refine T.seq ?_
    refine T.region ?_
    have hil:i<xs.length:=by have h:(i:Int)<(xs.length:Int):=ht167; omega
    have hlt:xs[i].st.late=false:=by
     rw [hsh6 i hil]
     exact rising_on (by omega) hDw (fun r hr=>(hL40 r (hp1.mem_iff.1 hr)).1) (by omega)
    refine TL.move hF rfl rfl ?_
    refine TL.move hF rfl rfl ?_
    refine TL.indexAddr hF rfl rfl (h6.row.tad shC_len (by decide) (i:=i) hil) (by omega) (by omega) rfl ?_
    refine TL.fieldAddr hF rfl rfl ?_
    refine TL.load hF rfl ((h6.up (η':=[(b9,Obj.cells (wsC s).toArray 23 (0,0))]::η) (by simp)).row.tabA shC_len (i:=i) hil 1 _ rfl) rfl ?_
    refine TL.nil ?_
    refine TQ.then_n ?_
    refine T.cond_f rfl hlt ?_
    refine T.skip ?_
    refine TQ.block_n ?_
    refine TQ.then_n ?_
    refine T.region ?_
    refine TL.move hF rfl rfl ?_
    refine TL.add hF rfl rfl (by first | omega | (dsimp only; omega)) (by first | omega | (dsimp only; omega)) rfl ?_
    refine TL.assign hF rfl rfl ?_
    refine TL.nil ?_
    exact TQ.round (i+1) (by omega) (by omega) ⟨rfl,rfl,rfl,rfl,rfl,rfl,trivial⟩ rfl
   ·refine T.exit ?_
    refine TQ.then_x ?_
    refine TQ.then_x ?_
    refine TQ.block_x ?_
    refine TQ.then_n ?_
    refine T.seq ?_
    refine T.region ?_
    refine TL.loadA hF (wsC s) rfl rfl (own_listM (b:=b9) (cs:=wsC s) (e:=23) (fz:=(0,0)) (by simp)) rfl ?_
    refine TL.alloc hF rfl (fun b27=>?_)
    refine TL.storeAs hF (wsC s) (wsC s) 0 (cs:=[.int .i64 0,.int .i64 0,.int .i64 0,.int .i64 0,.int .i64 0]) rfl rfl rfl rfl (wsC1 _) (Nat.le_refl 5) rfl ?_
    refine TL.nil ?_
    refine TQ.then_n ?_
    refine T.seq ?_
    refine T.region ?_
    refine TL.move hF rfl rfl ?_
    refine TL.fieldAddr hF rfl rfl ?_
    refine TL.load hF rfl (show At _ _ _ _ (.int .i64 s.late) from own_mem (b:=b9) (cs:=(wsC s).toArray) (e:=23) (fz:=(0,0)) (by simp) rfl) rfl ?_
    refine TL.add hF rfl rfl (by first | omega | (dsimp only; omega)) (by first | omega | (dsimp only; omega)) rfl ?_
    refine TL.callV hF (Turn_fn z2 (m:=s.late+1) (by omega)) rfl rfl ?_
    refine TL.fieldAddr hF rfl rfl ?_
    refine TL.storeI hF 0 rfl rfl rfl rfl (by simp [wsC]) ?_
    refine TL.nil ?_
    refine TQ.then_n ?_
    refine T.seq ?_
    refine T.region ?_
    have htl:=turnI_range z2 (m:=s.late+1) (by omega)
    have hq2:Askd ({ s with late:=turnI z2 (s.late+1) }) L:=askd_late hq (by omega) (by omega)
    have hq5:Askd ({ s with late:=50 }) L:=askd_late hq (by decide) (by decide)
    refine TL.heap (η':=[(b27,Obj.cells (wsC ({ s with late:=turnI z2 (s.late+1) })).toArray 23 (0,0))]::[(b9,Obj.cells (wsC s).toArray 23 (0,0))]::η) rfl ?_
    refine TL.loadA hF (wsC s) rfl rfl (own_listM (b:=b9) (cs:=wsC s) (e:=23) (fz:=(0,0)) (by simp)) rfl ?_
    refine TL.move hF rfl rfl ?_
    have hcall:=Play_fn (η:=[(b27,Obj.cells (wsC ({ s with late:=turnI z2 (s.late+1) })).toArray 23 (0,0))]::[(b9,Obj.cells (wsC s).toArray 23 (0,0))]::η) hT s (l:=L) (c:=rc) hlr (by omega)
    refine TL.call hF hcall rfl rfl ?_
    rintro _ _ ⟨lah7,lch7,ys,oah7,och7,segs,rfl,hmh7,h7,_,rfl⟩
    rw [playS_of hq] at hmh7 ⊢
    dsimp only at hmh7 ⊢
    refine TL.freeze (segs) rfl (fun S7 w7 hz7=>?_)
    replace hb:=hb.frz hz7
    replace hT:=hT.old hz7
    replace hlr:=hlr.old hz7
    replace htu:=htu.old hz7
    replace hdr:=hdr.old hz7
    replace h3:=h3.old hz7
    replace h4:=h4.old hz7
    replace h5:=h5.old hz7
    replace h6:=h6.old hz7
    replace h7:=h7.frz hz7
    obtain ⟨hlh7,hsh7⟩:=steps_of hmh7
    refine TL.move hF rfl rfl ?_
    refine TL.extract hF rfl rfl rfl ?_
    refine TL.extract hF rfl rfl rfl ?_
    refine TL.extract hF rfl rfl rfl ?_
    refine TL.assign hF rfl rfl ?_
    refine TL.assign hF rfl rfl ?_
    refine TL.assign hF rfl rfl ?_
    refine TL.nil ?_
    refine TQ.then_n ?_
    refine T.seq ?_
    refine T.region ?_
    refine TL.loadA hF (wsC ({ s with late:=turnI z2 (s.late+1) })) rfl rfl (own_listM (b:=b27) (cs:=wsC ({ s with late:=turnI z2 (s.late+1) })) (e:=23) (fz:=(0,0)) (by simp)) rfl ?_
    refine TL.move hF rfl rfl ?_
    have hcall:=Play_fn (η:=[(b27,Obj.cells (wsC ({ s with late:=turnI z2 (s.late+1) })).toArray 23 (0,0))]::[(b9,Obj.cells (wsC s).toArray 23 (0,0))]::η) hT ({ s with late:=turnI z2 (s.late+1) }) (l:=L) (c:=rc) hlr (by omega)
    refine TL.call hF hcall rfl rfl ?_
    rintro _ _ ⟨lah8,lch8,zs,oah8,och8,segs,rfl,hmh8,h8,_,rfl⟩
    rw [playS_of hq2] at hmh8 ⊢
    dsimp only at hmh8 ⊢
    refine TL.freeze (segs) rfl (fun S8 w8 hz8=>?_)
    replace hb:=hb.frz hz8
    replace hT:=hT.old hz8
    replace hlr:=hlr.old hz8
    replace htu:=htu.old hz8
    replace hdr:=hdr.old hz8
    replace h3:=h3.old hz8
    replace h4:=h4.old hz8
    replace h5:=h5.old hz8
    replace h6:=h6.old hz8
    replace h7:=h7.old hz8
    replace h8:=h8.frz hz8
    obtain ⟨hlh8,hsh8⟩:=steps_of hmh8
    refine TL.move hF rfl rfl ?_
    refine TL.extract hF rfl rfl rfl ?_
    refine TL.extract hF rfl rfl rfl ?_
    refine TL.extract hF rfl rfl rfl ?_
    refine TL.assign hF rfl rfl ?_
    refine TL.assign hF rfl rfl ?_
    refine TL.assign hF rfl rfl ?_
    refine TL.nil ?_
    refine TQ.then_n ?_
    refine T.seq ?_
    refine T.region ?_
    refine TL.fieldAddr hF rfl rfl ?_
    refine TL.storeI hF 1 rfl rfl rfl rfl (by simp [wsC]) ?_
    refine TL.nil ?_
    refine TQ.then_n ?_
    refine T.seq ?_
    refine T.region ?_
    refine TL.heap (η':=[(b27,Obj.cells (wsC ({ s with late:=turnI z2 (s.late+1) })).toArray 23 (0,0))]::[(b9,Obj.cells (wsC ({ s with late:=50 })).toArray 23 (0,0))]::η) rfl ?_
    refine TL.loadA hF (wsC ({ s with late:=50 })) rfl rfl (own_listM (b:=b9) (cs:=wsC ({ s with late:=50 })) (e:=23) (fz:=(0,0)) (by simp)) rfl ?_
    refine TL.move hF rfl rfl ?_
    have hcall:=Play_fn (η:=[(b27,Obj.cells (wsC ({ s with late:=turnI z2 (s.late+1) })).toArray 23 (0,0))]::[(b9,Obj.cells (wsC ({ s with late:=50 })).toArray 23 (0,0))]::η) hT ({ s with late:=50 }) (l:=L) (c:=rc) hlr (by omega)
    refine TL.call hF hcall rfl rfl ?_
    rintro _ _ ⟨lah9,lch9,us,oah9,och9,segs,rfl,hmh9,h9,_,rfl⟩
    rw [playS_of hq5] at hmh9 ⊢
    dsimp only at hmh9 ⊢
    refine TL.freeze (segs) rfl (fun S9 w9 hz9=>?_)
    replace hb:=hb.frz hz9
    replace hT:=hT.old hz9
    replace hlr:=hlr.old hz9
    replace htu:=htu.old hz9
    replace hdr:=hdr.old hz9
    replace h3:=h3.old hz9
    replace h4:=h4.old hz9
    replace h5:=h5.old hz9
    replace h6:=h6.old hz9
    replace h7:=h7.old hz9
    replace h8:=h8.old hz9
    replace h9:=h9.frz hz9
    obtain ⟨hlh9,hsh9⟩:=steps_of hmh9
    refine TL.move hF rfl rfl ?_
    refine TL.extract hF rfl rfl rfl ?_
    refine TL.extract hF rfl rfl rfl ?_
    refine TL.extract hF rfl rfl rfl ?_
    refine TL.assign hF rfl rfl ?_
    refine TL.assign hF rfl rfl ?_
    refine TL.assign hF rfl rfl ?_
    refine TL.nil ?_
    refine TQ.then_n ?_
    refine T.seq ?_
    refine T.seq ?_
    refine T.region ?_
    refine TL.move hF rfl rfl ?_
    refine TL.bin hF rfl rfl rfl rfl ?_
    refine TL.move hF rfl rfl ?_
    refine TL.on rfl rfl rfl (by decide) ?_
    refine TL.move hF rfl rfl ?_
    refine TL.on rfl rfl rfl (by decide) ?_
    refine TL.bin hF rfl rfl rfl rfl ?_
    refine TL.pickF hF rfl (by decide) rfl rfl ?_
    refine TL.move hF rfl rfl ?_
    refine TL.on rfl rfl rfl (by decide) ?_
    refine TL.move hF rfl rfl ?_
    refine TL.on rfl rfl rfl (by decide) ?_
    refine TL.bin hF rfl rfl rfl rfl ?_
    refine TL.pickF hF rfl (by decide) rfl rfl ?_
    refine TL.move hF rfl rfl ?_
    refine TL.on rfl rfl rfl (by decide) ?_
    refine TL.move hF rfl rfl ?_
    refine TL.on rfl rfl rfl (by decide) ?_
    refine TL.len hF rfl rfl ?_
    refine TL.on rfl rfl rfl (by decide) ?_
    refine TL.move hF rfl rfl ?_
    refine TL.on rfl rfl rfl (by decide) ?_
    refine TL.len hF rfl rfl ?_
    refine TL.on rfl rfl rfl (by decide) ?_
    refine TL.bin hF rfl rfl rfl rfl ?_
    refine TL.pickF hF rfl (by decide) rfl rfl ?_
    refine TL.move hF rfl rfl ?_
    refine TL.on rfl rfl rfl (by rw [hlh7]; simp) ?_
    refine TL.move hF rfl rfl ?_
    refine TL.on rfl rfl rfl (by rw [hlh7]; simp) ?_
    refine TL.len hF rfl rfl ?_
    refine TL.on rfl rfl rfl (by rw [hlh7]; simp) ?_
    refine TL.move hF rfl rfl ?_
    refine TL.on rfl rfl rfl (by rw [hlh7]; simp) ?_
    refine TL.len hF rfl rfl ?_
    refine TL.on rfl rfl rfl (by rw [hlh7]; simp) ?_
    refine TL.bin hF rfl rfl rfl rfl ?_
    refine TL.pickF hF rfl (by rw [hlh7]; simp) rfl rfl ?_
    refine TL.move hF rfl rfl ?_
    refine TL.on rfl rfl rfl (by rw [hlh8]; simp) ?_
    refine TL.move hF rfl rfl ?_
    refine TL.on rfl rfl rfl (by rw [hlh8]; simp) ?_
    refine TL.len hF rfl rfl ?_
    refine TL.on rfl rfl rfl (by rw [hlh8]; simp) ?_
    refine TL.move hF rfl rfl ?_
    refine TL.on rfl rfl rfl (by rw [hlh8]; simp) ?_
    refine TL.len hF rfl rfl ?_
    refine TL.on rfl rfl rfl (by rw [hlh8]; simp) ?_
    refine TL.bin hF rfl rfl rfl rfl ?_
    refine TL.pickF hF rfl (by rw [hlh8]; simp) rfl rfl ?_
    refine TL.nil ?_
    refine TQ.then_n ?_
    refine T.cond_f rfl (by rw [hlh9]; simp) ?_
    refine T.skip ?_
    refine TQ.then_n ?_
    refine T.seq ?_
    refine T.seq ?_
    refine T.region ?_
    refine TL.assign hF rfl rfl ?_
    refine TL.nil ?_
    refine TQ.then_n ?_
    refine T.block ?_
    refine T.loop (ι:=Nat) (fun i=>i≤L.length) (fun i=>[(8,.bool false),(10,.slice ra L.length rc),(28,.slice lah7 ys.length lch7),(30,.slice lah8 zs.length lch8),(32,.slice lah9 us.length lch9),(34,.int .i64 (i:Int))]) (fun _=>[(b27,Obj.cells (wsC ({ s with late:=turnI z2 (s.late+1) })).toArray 23 (0,0))]::[(b9,Obj.cells (wsC ({ s with late:=50 })).toArray 23 (0,0))]::η) (fun i=>L.length - i) 0 (Nat.zero_le _) ⟨rfl,rfl,rfl,rfl,rfl,rfl,trivial⟩ rfl ?_
    rintro i hi
    refine T.seq ?_
    refine T.seq ?_
    refine T.region ?_
    refine TL.move hF rfl rfl ?_
    refine TL.move hF rfl rfl ?_
    refine TL.len hF rfl rfl ?_
    refine TL.bin hF rfl rfl rfl rfl ?_
    refine TL.nil ?_
    refine TQ.then_n ?_
    first | refine T.cond_d rfl (fun ht238=>?_) (fun ht238=>?_) | refine T.cond _ rfl (fun ht238=>?_) (fun ht238=>?_)
    ·refine T.skip ?_
     refine TQ.then_n ?_
     refine T.seq ?_
     refine T.block ?_
     refine T.seq ?_
     refine T.region ?_
     have hil:i<L.length:=by have h:(i:Int)<(L.length:Int):=ht238; omega
     have hly:ys[i].st.late=true→zs[i].st.late=true:=fun h=>by
      rw [hsh7 i (by omega)] at h
      rw [hsh8 i (by omega)]
      exact late_less (by omega) (by dsimp only; omega) (by dsimp only; omega) (fun r hr=>(hL40 r hr).1) h
     have hlu:us[i].st.late=false:=by
      rw [hsh9 i (by omega)]
      exact late_none (b:=40) (by dsimp only; decide) (by decide) hL40 hil
     refine TL.move hF rfl rfl ?_
     refine TL.move hF rfl rfl ?_
     refine TL.indexAddr hF rfl rfl (h7.row.tad shC_len (by decide) (i:=i) (by omega)) (by omega) (by omega) rfl ?_
     refine TL.fieldAddr hF rfl rfl ?_
     refine TL.load hF rfl ((h7.up (η':=[(b27,Obj.cells (wsC ({ s with late:=turnI z2 (s.late+1) })).toArray 23 (0,0))]::[(b9,Obj.cells (wsC ({ s with late:=50 })).toArray 23 (0,0))]::η) (by simp)).row.tabA shC_len (i:=i) (by omega) 1 _ rfl) rfl ?_
     refine TL.move hF rfl rfl ?_
     refine TL.join [_,_,_,_,_,_,_] 253 (.bool false) rfl ?_ ?_
     ·refine TL.gb (t:=246) rfl (fun g38_246=>?_) (fun g38_246=>?_)
      ·refine TL.on rfl rfl rfl g38_246 ?_
       refine TL.move hF rfl rfl ?_
       refine TL.on rfl rfl rfl g38_246 ?_
       refine TL.move hF rfl rfl ?_
       refine TL.on rfl rfl rfl g38_246 ?_
       refine TL.indexAddr hF rfl rfl (h8.row.tad shC_len (by decide) (i:=i) (by omega)) (by omega) (by omega) rfl ?_
       refine TL.on rfl rfl rfl g38_246 ?_
       refine TL.fieldAddr hF rfl rfl ?_
       refine TL.on rfl rfl rfl g38_246 ?_
       refine TL.load hF rfl ((h8.up (η':=[(b27,Obj.cells (wsC ({ s with late:=turnI z2 (s.late+1) })).toArray 23 (0,0))]::[(b9,Obj.cells (wsC ({ s with late:=50 })).toArray 23 (0,0))]::η) (by simp)).row.tabA shC_len (i:=i) (by omega) 1 _ rfl) rfl ?_
       refine TL.on rfl rfl rfl g38_246 ?_
       refine TL.not hF rfl rfl ?_
       refine TL.pickT hF rfl g38_246 rfl rfl ?_
       refine TL.finJ ⟨?_,by repeat (first | exact trivial | refine ⟨rfl,?_⟩)⟩
       first | rfl | exact congrArg (fun z=>some (Value.bool z)) (by rw [hly g38_246]; rfl)
      ·refine TL.off hF rfl rfl rfl g38_246 rfl ?_
       refine TL.off hF rfl rfl rfl g38_246 rfl ?_
       refine TL.off hF rfl rfl rfl g38_246 rfl ?_
       refine TL.off hF rfl rfl rfl g38_246 rfl ?_
       refine TL.off hF rfl rfl rfl g38_246 rfl ?_
       refine TL.off hF rfl rfl rfl g38_246 rfl ?_
       refine TL.pickF hF rfl g38_246 rfl rfl ?_
       refine TL.finJ ⟨?_,by repeat (first | exact trivial | refine ⟨rfl,?_⟩)⟩
       first | rfl | exact congrArg (fun z=>some (Value.bool z)) (by rw [hly g38_246]; rfl)
     ·refine TL.move hF rfl rfl ?_
      refine TL.on rfl rfl rfl rfl ?_
      refine TL.move hF rfl rfl ?_
      refine TL.on rfl rfl rfl rfl ?_
      refine TL.move hF rfl rfl ?_
      refine TL.on rfl rfl rfl rfl ?_
      refine TL.indexAddr hF rfl rfl (h9.row.tad shC_len (by decide) (i:=i) (by omega)) (by omega) (by omega) rfl ?_
      refine TL.on rfl rfl rfl rfl ?_
      refine TL.fieldAddr hF rfl rfl ?_
      refine TL.on rfl rfl rfl rfl ?_
      refine TL.load hF rfl ((h9.up (η':=[(b27,Obj.cells (wsC ({ s with late:=turnI z2 (s.late+1) })).toArray 23 (0,0))]::[(b9,Obj.cells (wsC ({ s with late:=50 })).toArray 23 (0,0))]::η) (by simp)).row.tabA shC_len (i:=i) (by omega) 1 _ rfl) rfl ?_
      refine TL.pickF hF rfl rfl rfl rfl ?_
      refine TL.nil ?_
      refine TQ.then_n ?_
      refine T.cond_f rfl hlu ?_
      refine T.skip ?_
      refine TQ.block_n ?_
      refine TQ.then_n ?_
      refine T.region ?_
      refine TL.move hF rfl rfl ?_
      refine TL.add hF rfl rfl (by first | omega | (dsimp only; omega)) (by first | omega | (dsimp only; omega)) rfl ?_
      refine TL.assign hF rfl rfl ?_
      refine TL.nil ?_
      exact TQ.round (i+1) (by omega) (by omega) ⟨rfl,rfl,rfl,rfl,rfl,rfl,trivial⟩ rfl
    ·refine T.exit ?_
     refine TQ.then_x ?_
     refine TQ.then_x ?_
     refine TQ.block_x ?_
     refine TQ.then_n ?_
     refine T.seq ?_
     refine T.region ?_
     refine TL.call hF (windowed_law hT) rfl rfl ?_
     rintro _ _ rfl
     refine TL.assign hF rfl rfl ?_
     refine TL.nil ?_
     refine TQ.then_n ?_
     refine T.ret ?_
     exact TQ.retsF [8] _ hb rfl rfl rfl (fun _=>rfl)
end Go.Proofs.YtbajelldegijkaaDoor
namespace Go.Proofs.YtbajelldegijkaaDoor
open Go.Sl Go.ChangeShapes Go.WideShapes Go.ChangeAt Go.RowKit
set_option maxRecDepth 100000 in
theorem windowOrders_lifted (os : Os) (started : os.Started) (H : Type) (enc : TypeId × Value → H) :
    ReturnsInHanded {} Tryd.checked os 7 .any (fun w args=>(Rows.windowOrdersSpec.pre enc Tryd.prog Tryd.f7 [] false w args∧laidMetH Tryd.prog laidL w)∧sizedMet enc Tryd.prog Tryd.f7 (OpenSpec.ofChange Rows.windowOrdersSpec) false w args)
      (Rows.windowOrdersSpec.post enc Tryd.prog Tryd.f7 false true false false):=by
  refine returnsInHanded_of_change_and (C:=Tryd.checked) (X:=fun w _=>laidMetH Tryd.prog laidL w) (fun _ _ _ hh h=>h.of_heap hh) Tryd.own started (by kernel_rfl) Tryd.func7
    (ChangeSpec.witness_shaped (enc:=enc) (C:=Tryd.checked) (os:=os) (X:=fun w _=>laidMetH Tryd.prog laidL w) false (World.doorLaid Tryd.prog 2000 os) #[.agg #[.int .i64 0,.int .i64 0,.int .i64 0,.int .i64 0,.int .i64 0],.slice none 0 0,.int .i64 0,.int .i64 0] 8 rfl (World.shaped_of_RefB (by kernel_rfl) (by kernel_rfl)) (by kernel_rfl) (by kernel_rfl) (by kernel_rfl) (door_met os _)) ?_
  intro W base args ds gs before hval0 hW _ hwt hL _
  have hval':∀ (j:Nat) t v,Tryd.f7.params[j]?=some t→args[j]?=some v→Value.okWide Tryd.prog W .any base t v:=hval0
  have hW':=hW
  obtain ⟨p,q,hA0,hV,rfl,hfz,hnd⟩:=hW
  have hA:DataW.TrodAll enc Tryd.prog W 0 (fun _=>true) true [53,43,3,3] args.toList ds p:=hA0
  obtain ⟨v0,v1,v2,v3,d0,d1,d2,d3,p0,p1,p2,p3,rfl,rfl,rfl,h0,h1,h2,h3⟩:=trodAll_four hA
  obtain ⟨n0,rfl⟩:=five_open (hval' 0 53 v0 rfl rfl) h0
  obtain ⟨_,_,_,rfl⟩:=okWide_slice uIs (hval' 1 43 v1 rfl rfl)
  obtain ⟨_,h1⟩:=h1
  obtain ⟨a1,xs1,c1,e1,hx1,hl1,hc1,hb1⟩:=ints_arg h1
  obtain ⟨z2,rfl,_,_,wz2⟩:=open_int u3 (hval' 2 3 v2 rfl rfl) h2
  have iz2:=wf_i64 wz2
  obtain ⟨z3,rfl,_,_,wz3⟩:=open_int u3 (hval' 3 3 v3 rfl rfl) h3
  have iz3:=wf_i64 wz3
  rw [e1] at hW' ⊢
  refine (calls_true (WindowOrders_fn (tabs_of_laid hL) hx1 hl1)).mono fun e W' ⟨he,hw⟩=>⟨_,he,?_⟩
  exact law_post (f:=Tryd.f7) Tryd.laidOut rfl 4 rfl u4 hW' rfl (by decide +kernel) hw
theorem windowOrders_said:Rows.WindowOrdersSaid :=
  OpenClaim.holds_of_wide 7 Tryd.f7 rfl rfl rfl rfl rfl rfl rfl ⟨rfl,rfl,rfl,rfl,rfl⟩ rfl rfl rfl rfl rfl (by kernel_rfl) Tryd.func7 (by kernel_rfl)
    (of_decide_eq_true (by kernel_rfl)) (by unfold Func.isWrapper; first | (rw [if_pos (by decide +kernel)]; kernel_rfl) | (rw [if_neg (by decide +kernel)]; exact ⟨rfl,rfl⟩))
    (fun os started H enc _=>windowOrders_lifted os started H enc)
theorem windowOrders_holds:Rows.WindowOrdersCardSaid :=
  Claim7.holds_tied_plain_at .later [] [.funcs] true (true, "edd8e981fe4d3e724f26595c5f9106e083d3da54a7e7e8d858f79c443b2db2cc") true
    windowOrders_said (fun _ h=>by cases h) (by kernel_rfl) (fun _ h=>by cases h) windowOrders_row_tie rfl ⟨rfl,rfl⟩ (by kernel_rfl) rfl
    (fun f fn hf hfn=>by
      obtain rfl : f = 7 := Option.some.inj ((show Tryd.prog.funcNamed "deltaworks/deltaworkslaw25.WindowOrders" = some 7 by kernel_rfl).symm.trans hf) |>.symm
      obtain rfl:fn=Tryd.f7:=(Option.some.inj (Tryd.func7.symm.trans hfn)).symm
      exact ⟨by kernel_rfl,fun j t ht=>by
        have ht2:(#[53,43,3,3]:Array TypeId)[j]?=some t:=ht
        have hm:t∈([53,43,3,3]:List TypeId):=by simpa using Array.mem_of_getElem? ht2
        have hall:(([53,43,3,3]:List TypeId).all fun u=>!Tryd.prog.wantsStandIn u)=true:=by kernel_rfl
        exact (show Tryd.prog.wantsStandIn t=false by simpa using List.all_eq_true.1 hall t hm)⟩)
    (by kernel_rfl)
#print axioms windowOrders_holds
end Go.Proofs.YtbajelldegijkaaDoor
