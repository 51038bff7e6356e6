/- Counts, sums and least words of windows that do not meet add up, for every input. No condition. -/
import Derived.Test.YtbajelldegijkaaDoorVi
import Derived.Test.YtbajelldegijkaaDoorCards
import Derived.Test.YtbajelldegijkaaDoorTie
/- The law of counts. -/
namespace Go.Proofs.YtbajelldegijkaaDoor
open Go.Sl
variable {S:Nat→Prop} {w0:World} {η:Heap}
/-- Cut without a step of its own, and another fold. -/
def cutT (s:Wsp) (g:Int):Wsp:=⟨s.kind,s.size,s.size,s.late,g⟩
theorem cutT_ok (n:N5) {g:Int} (h0:0≤g) (h3:g≤3):okS (cutT (cutW n) g)=true:=by
 have h:=cutW_rng n
 unfold okS cutT
 simp only [Bool.and_eq_true,Bool.or_eq_true,decide_eq_true_eq]
 omega
def manyTo (L:List Rw) (W:List Ot) (i:Nat):Int:=(W.take i).foldl (fun a x=>a+foldS 0 (wordsX L x)) 0
def foldTo (f:Int) (L:List Rw) (W:List Ot) (i:Nat):Int:=(W.take i).foldl (fun a x=>twoF f a (foldS f (wordsX L x))) (noneF f)
theorem manyTo_step {L:List Rw} {W:List Ot} {i:Nat} (h:i<W.length):manyTo L W (i+1)=manyTo L W i+foldS 0 (wordsX L W[i]):=by
 unfold manyTo; rw [List.take_succ_eq_append_getElem h,List.foldl_append]; rfl
theorem foldTo_step {f:Int} {L:List Rw} {W:List Ot} {i:Nat} (h:i<W.length):foldTo f L W (i+1)=twoF f (foldTo f L W i) (foldS f (wordsX L W[i])):=by
 unfold foldTo; rw [List.take_succ_eq_append_getElem h,List.foldl_append]; rfl
theorem wordsX_len (L:List Rw) (x:Ot):(wordsX L x).length≤L.length:=by unfold wordsX; rw [List.length_map]; exact List.length_filter_le _ _
theorem wordsX_wd {L:List Rw} (h:Ws L) (x:Ot):∀ w∈wordsX L x,Wd w:=h.filter _
theorem manyTo_rng {L:List Rw} {W:List Ot} (hl:L.length≤300):∀ i,i≤W.length→0≤manyTo L W i∧manyTo L W i≤300*i
 | 0,_=>by simp [manyTo]
 | i+1,h=>by
  have h1:=manyTo_rng (W:=W) hl i (by omega)
  have h2:=wordsX_len L W[i]
  rw [manyTo_step (by omega),fold_count (by omega)]
  omega
theorem foldTo_wd {f:Int} {L:List Rw} {W:List Ot} (hw:Ws L):∀ i,i≤W.length→Wd (foldTo f L W i)
 | 0,_=>by unfold foldTo; exact wd_none f
 | i+1,h=>by rw [foldTo_step (by omega)]; exact wd_two (foldTo_wd hw i (by omega)) (wd_fold (wordsX_wd hw _))
theorem inX_iff {x:Ot} {r:Rw}:inX x r=true↔x.key=r.key∧x.fr≤r.time∧r.time<x.to:=by unfold inX; rw [inW_iff]; exact ⟨fun h=>⟨h.1.symm,h.2⟩,fun h=>⟨h.1.symm,h.2⟩⟩
theorem countP_step {W:List Ot} {r:Rw} {k:Nat} (h:k<W.length):(W.take (k+1)).countP (fun x=>inX x r)=(W.take k).countP (fun x=>inX x r)+if inX W[k] r=true then 1 else 0:=by
 rw [List.take_succ_eq_append_getElem h,List.countP_append,List.countP_cons]; simp
theorem three {a b:Prop}:¬ a∨(a∧¬ b)∨(a∧b):=by
 by_cases ha:a <;> by_cases hb:b <;> simp [ha,hb]
theorem twoF1 (a b:Int):twoF 1 a b=wrap32 (a+b):=by simp [twoF]
theorem twoF2 (a b:Int):twoF 2 a b=min a b:=by simp [twoF]
theorem wholeS_at {s:Wsp} {l:List Rw} (h:Askd s l):wholeS s l=(allS s l,0):=by unfold wholeS; rw [if_pos h.asked]
set_option maxHeartbeats 8000000 in
theorem WindowCounts_fn {n : N5} {a : Option Addr} {l : List Int} {c : Nat} (hT : Tabs S w0) (hx : Row S w0 [] a (ints l)) (hl : l.length < 9223372036854775808) :
  Rt Tryd.prog 9 [n5V n,.slice a l.length c].toArray S w0 η (fun v _=>v = .bool true):=by
 have hF:=open_wide
 refine Rt.of (fn:=Tryd.f9) Tryd.func9 rfl rfl ?_
 refine T.seq ?_
 refine T.region ?_
 refine TL.box hF rfl rfl (fun b2=>?_)
 refine TL.assign hF rfl rfl ?_
 refine TL.nil ?_
 refine TQ.then_n ?_
 refine T.seq ?_
 refine T.region ?_
 have hb:=Back.refl S w0
 refine TL.loadA hF (n5C n) rfl rfl (own_list (i:=0) (cs:=n5C n) rfl) rfl ?_
 refine TL.callV hF (cut_fn n) rfl rfl ?_
 refine TL.move hF rfl rfl ?_
 refine TL.call hF (streamL_fn hx hl) rfl rfl ?_
 rintro _ _ ⟨ra,rc,rg,rfl,hro,rfl⟩
 obtain ⟨s,hse⟩:∃ s,s=cutW n:=⟨_,rfl⟩
 obtain ⟨L,hLe⟩:∃ L,L=rowsOf l:=⟨_,rfl⟩
 have hq:∀ g,0≤g→g≤3→Askd (cutT s g) L:=fun g h0 h3=>by rw [hse,hLe]; exact rowsOf_askd (cutT_ok n h0 h3) (fun r h=>h) (by have:=rowsOf_len l; omega)
 have hq0:=hq 0 (by decide) (by decide)
 have hL30:L.length≤30:=by rw [hLe]; exact rowsOf_len l
 rw [← hse,← hLe]
 rw [← hLe] at hro
 have hrc:=osl_cap hro
 have hlr:RRow S w0 [rg] ra L:=hro.row (by simp)
 have hTm:Tumb (cutT s 0):=⟨hq0.w,fun _=>rfl⟩
 have hws:=hq0.ws
 have ht0:∀ r∈L,0≤r.time:=fun r hr=>((hq0.row hr).1).1
 obtain ⟨W,hWe⟩:∃ W,W=allS (cutT s 0) L:=⟨_,rfl⟩
 have hWl:=all_len hq0
 rw [← hWe] at hWl
 have hWf:∀ g,allS (cutT s g) L=W.map (refold g L):=fun g=>by rw [hWe]; exact all_fold hq0.w g L
 refine TL.freeze ([rg]) rfl (fun S1 w1 hz1=>?_)
 replace hb:=hb.frz hz1
 replace hT:=hT.old hz1
 replace hlr:=hlr.frz hz1
 refine TL.hsub η (List.sublist_cons_self _ _) ?_
 refine TL.alloc hF rfl (fun b5=>?_)
 refine TL.storeAs hF (wsC s) (wsC s) 0 (cs:=[.int .i64 0,.int .i64 0,.int .i64 0,.int .i64 0,.int .i64 0]) rfl rfl rfl rfl (wsC1 _) (Nat.le_refl 5) rfl ?_
 refine TL.assign hF rfl rfl ?_
 refine TL.nil ?_
 refine TQ.then_n ?_
 refine T.seq ?_
 refine T.region ?_
 refine TL.fieldAddr hF rfl rfl ?_
 refine TL.load hF rfl (show At _ _ _ _ (.int .i64 s.size) from own_mem (b:=b5) (cs:=(wsC s).toArray) (e:=23) (fz:=(0,0)) (by simp) rfl) rfl ?_
 refine TL.fieldAddr hF rfl rfl ?_
 refine TL.storeI hF 0 rfl rfl rfl rfl (by simp [wsC]) ?_
 refine TL.nil ?_
 refine TQ.then_n ?_
 refine T.seq ?_
 refine T.region ?_
 refine TL.fieldAddr hF rfl rfl ?_
 refine TL.storeI hF 0 rfl rfl rfl rfl (by simp [wsC]) ?_
 refine TL.nil ?_
 refine TQ.then_n ?_
 refine T.seq ?_
 refine T.region ?_
 refine TL.heap (η':=[(b5,Obj.cells (wsC (cutT s 0)).toArray 23 (0,0))]::η) rfl ?_
 refine TL.loadA hF (wsC (cutT s 0)) rfl rfl (own_listM (b:=b5) (cs:=wsC (cutT s 0)) (e:=23) (fz:=(0,0)) (by simp)) rfl ?_
 refine TL.move hF rfl rfl ?_
 refine TL.call hF (Whole_fn hT (cutT s 0) hlr (by omega) hrc) rfl rfl ?_
 rintro _ _ ⟨ah3,ch3,segs,rfl,h3,rfl⟩
 rw [wholeS_at (hq 0 (by decide) (by decide))] at h3 ⊢
 dsimp only at h3 ⊢
 rw [← hWe] at h3 ⊢
 
 refine TL.freeze (segs) rfl (fun S2 w2 hz2=>?_)
 replace hb:=hb.frz hz2
 replace hT:=hT.old hz2
 replace hlr:=hlr.old hz2
 replace h3:=h3.frz hz2
 refine TL.move hF rfl rfl ?_
 refine TL.extract hF rfl rfl rfl ?_
 refine TL.extract hF rfl rfl rfl ?_
 refine TL.assign hF rfl rfl ?_
 refine TL.assign hF rfl rfl ?_
 refine TL.nil ?_
 refine TQ.then_n ?_
 refine T.seq ?_
 refine T.region ?_
 refine TL.fieldAddr hF rfl rfl ?_
 refine TL.storeI hF 0 rfl rfl rfl rfl (by simp [wsC]) ?_
 refine TL.nil ?_
 refine TQ.then_n ?_
 refine T.seq ?_
 refine T.region ?_
 refine TL.heap (η':=[(b5,Obj.cells (wsC (cutT s 1)).toArray 23 (0,0))]::η) rfl ?_
 refine TL.loadA hF (wsC (cutT s 1)) rfl rfl (own_listM (b:=b5) (cs:=wsC (cutT s 1)) (e:=23) (fz:=(0,0)) (by simp)) rfl ?_
 refine TL.move hF rfl rfl ?_
 refine TL.call hF (Whole_fn hT (cutT s 1) hlr (by omega) hrc) rfl rfl ?_
 rintro _ _ ⟨ah4,ch4,segs,rfl,h4,rfl⟩
 rw [wholeS_at (hq 1 (by decide) (by decide))] at h4 ⊢
 dsimp only at h4 ⊢
 rw [hWf 1] at h4 ⊢
 rw [List.length_map] at ⊢
 refine TL.freeze (segs) rfl (fun S3 w3 hz3=>?_)
 replace hb:=hb.frz hz3
 replace hT:=hT.old hz3
 replace hlr:=hlr.old hz3
 replace h3:=h3.old hz3
 replace h4:=h4.frz hz3
 refine TL.move hF rfl rfl ?_
 refine TL.extract hF rfl rfl rfl ?_
 refine TL.extract hF rfl rfl rfl ?_
 refine TL.assign hF rfl rfl ?_
 refine TL.assign hF rfl rfl ?_
 refine TL.nil ?_
 refine TQ.then_n ?_
 refine T.seq ?_
 refine T.region ?_
 refine TL.fieldAddr hF rfl rfl ?_
 refine TL.storeI hF 0 rfl rfl rfl rfl (by simp [wsC]) ?_
 refine TL.nil ?_
 refine TQ.then_n ?_
 refine T.seq ?_
 refine T.region ?_
 refine TL.heap (η':=[(b5,Obj.cells (wsC (cutT s 2)).toArray 23 (0,0))]::η) rfl ?_
 refine TL.loadA hF (wsC (cutT s 2)) rfl rfl (own_listM (b:=b5) (cs:=wsC (cutT s 2)) (e:=23) (fz:=(0,0)) (by simp)) rfl ?_
 refine TL.move hF rfl rfl ?_
 refine TL.call hF (Whole_fn hT (cutT s 2) hlr (by omega) hrc) rfl rfl ?_
 rintro _ _ ⟨ah5,ch5,segs,rfl,h5,rfl⟩
 rw [wholeS_at (hq 2 (by decide) (by decide))] at h5 ⊢
 dsimp only at h5 ⊢
 rw [hWf 2] at h5 ⊢
 rw [List.length_map] at ⊢
 refine TL.freeze (segs) rfl (fun S4 w4 hz4=>?_)
 replace hb:=hb.frz hz4
 replace hT:=hT.old hz4
 replace hlr:=hlr.old hz4
 replace h3:=h3.old hz4
 replace h4:=h4.old hz4
 replace h5:=h5.frz hz4
 refine TL.move hF rfl rfl ?_
 refine TL.extract hF rfl rfl rfl ?_
 refine TL.extract hF rfl rfl rfl ?_
 refine TL.assign hF rfl rfl ?_
 refine TL.assign hF rfl rfl ?_
 refine TL.nil ?_
 refine TQ.then_n ?_
 refine T.seq ?_
 refine T.region ?_
 refine TL.assign hF rfl rfl ?_
 refine TL.assign hF rfl rfl ?_
 refine TL.assign hF rfl rfl ?_
 refine TL.assign hF rfl rfl ?_
 refine TL.assign hF rfl rfl ?_
 refine TL.nil ?_
 refine TQ.then_n ?_
 refine T.seq ?_
 refine T.seq ?_
 refine T.region ?_
 refine TL.move hF rfl rfl ?_
 refine TL.bin hF rfl rfl rfl rfl ?_
 refine TL.move hF rfl rfl ?_
 refine TL.on rfl rfl rfl (by decide) ?_
 refine TL.move hF rfl rfl ?_
 refine TL.on rfl rfl rfl (by decide) ?_
 refine TL.bin hF rfl rfl rfl rfl ?_
 refine TL.pickF hF rfl (by decide) rfl rfl ?_
 refine TL.move hF rfl rfl ?_
 refine TL.on rfl rfl rfl (by decide) ?_
 refine TL.move hF rfl rfl ?_
 refine TL.on rfl rfl rfl (by decide) ?_
 refine TL.bin hF rfl rfl rfl rfl ?_
 refine TL.pickF hF rfl (by decide) rfl rfl ?_
 refine TL.move hF rfl rfl ?_
 refine TL.on rfl rfl rfl (by decide) ?_
 refine TL.move hF rfl rfl ?_
 refine TL.on rfl rfl rfl (by decide) ?_
 refine TL.len hF rfl rfl ?_
 refine TL.on rfl rfl rfl (by decide) ?_
 refine TL.move hF rfl rfl ?_
 refine TL.on rfl rfl rfl (by decide) ?_
 refine TL.len hF rfl rfl ?_
 refine TL.on rfl rfl rfl (by decide) ?_
 refine TL.bin hF rfl rfl rfl rfl ?_
 refine TL.pickF hF rfl (by decide) rfl rfl ?_
 refine TL.move hF rfl rfl ?_
 refine TL.on rfl rfl rfl (by simp) ?_
 refine TL.move hF rfl rfl ?_
 refine TL.on rfl rfl rfl (by simp) ?_
 refine TL.len hF rfl rfl ?_
 refine TL.on rfl rfl rfl (by simp) ?_
 refine TL.move hF rfl rfl ?_
 refine TL.on rfl rfl rfl (by simp) ?_
 refine TL.len hF rfl rfl ?_
 refine TL.on rfl rfl rfl (by simp) ?_
 refine TL.bin hF rfl rfl rfl rfl ?_
 refine TL.pickF hF rfl (by simp) rfl rfl ?_
 refine TL.nil ?_
 refine TQ.then_n ?_
 refine T.cond_f rfl (by simp) ?_
 refine T.skip ?_
 refine TQ.then_n ?_
 refine T.seq ?_
 refine T.seq ?_
 refine T.region ?_
 refine TL.assign hF rfl rfl ?_
 refine TL.nil ?_
 refine TQ.then_n ?_
 refine T.block ?_
 refine T.loop (ι:=Nat) (fun i=>i≤W.length) (fun i=>[(4,.bool false),(6,.slice ra L.length rc),(7,.slice ah3 W.length ch3),(9,.slice ah4 W.length ch4),(11,.slice ah5 W.length ch5),(13,.int .i64 (manyTo L W i)),(14,.int .i64 (foldTo 1 L W i)),(15,.int .i64 (foldTo 2 L W i)),(16,.int .i64 0),(17,.int .i64 2147483647),(18,.int .i64 (i:Int))]) (fun _=>[(b5,Obj.cells (wsC (cutT s 2)).toArray 23 (0,0))]::η) (fun i=>W.length - i) 0 (Nat.zero_le _) ⟨rfl,rfl,rfl,rfl,rfl,rfl,rfl,rfl,rfl,rfl,rfl,trivial⟩ rfl ?_
 rintro i hi
 have hmr:=manyTo_rng (L:=L) (W:=W) (by omega) i hi
 have hs1:=foldTo_wd (f:=1) (W:=W) hws i hi
 have hs2:=foldTo_wd (f:=2) (W:=W) hws i hi
 refine T.seq ?_
 refine T.seq ?_
 refine T.region ?_
 refine TL.move hF rfl rfl ?_
 refine TL.move hF rfl rfl ?_
 refine TL.len hF rfl rfl ?_
 refine TL.bin hF rfl rfl rfl rfl ?_
 refine TL.nil ?_
 refine TQ.then_n ?_
 first | refine T.cond_d rfl (fun ht78=>?_) (fun ht78=>?_) | refine T.cond _ rfl (fun ht78=>?_) (fun ht78=>?_)
 ·refine T.skip ?_
  refine TQ.then_n ?_
  refine T.seq ?_
  refine T.block ?_
  refine T.seq ?_
  refine T.seq ?_
  have hil:i<W.length:=by have h:(i:Int)<(W.length:Int):=ht78; omega
  have hxw:W[i]∈allS (cutT s 0) L:=by rw [← hWe]; exact List.getElem_mem hil
  have hwd:W[i].word=foldS 0 (wordsX L W[i]):=all_word hq0.w hxw
  have hwl:=wordsX_len L W[i]
  have hwc:foldS 0 (wordsX L W[i])=((wordsX L W[i]).length:Int):=fold_count (by omega)
  have hwp:0<(wordsX L W[i]).length:=by
   obtain ⟨r,hr,hin⟩:=all_some hq0.w hxw
   unfold wordsX
   rw [List.length_map]
   exact List.length_pos_of_mem (List.mem_filter.2 ⟨hr,hin⟩)
  have hm4:i<(W.map (refold 1 L)).length:=(by rw [List.length_map]; exact hil)
  have hm5:i<(W.map (refold 2 L)).length:=(by rw [List.length_map]; exact hil)
  have e4:(W.map (refold 1 L))[i]=refold 1 L W[i]:=by simp
  have e5:(W.map (refold 2 L))[i]=refold 2 L W[i]:=by simp
  refine T.draw ?_
  refine DR.stepV [_] rfl [(7,_,none)] rfl rfl ⟨⟨rfl,by kernel_rfl⟩,trivial⟩ (fun ext=>TL.move hF rfl rfl TL.fin) ?_
  refine DR.stepV [_,_] rfl [(18,_,none)] rfl rfl ⟨⟨rfl,by kernel_rfl⟩,trivial⟩ (fun ext=>TL.move hF rfl rfl TL.fin) ?_
  refine DR.stepV [_,_,_] rfl [(81,_,some 0),(82,_,some 1)] rfl rfl ⟨⟨rfl,rfl,rfl⟩,⟨rfl,rfl,rfl⟩,trivial⟩ (fun ext=>TL.indexAddr hF rfl rfl (or_ad h3 (i:=i) hil) (by omega) (by omega) rfl TL.fin) ?_
  refine DR.stepV [_,_,_,_] rfl [(83,_,some 2)] rfl rfl ⟨⟨rfl,rfl,rfl⟩,trivial⟩ (fun ext=>TL.fieldAddr hF rfl rfl TL.fin) ?_
  refine DR.stepV [_,_,_,_,_] rfl [(84,_,some 3)] rfl rfl ⟨⟨rfl,rfl,rfl⟩,trivial⟩ (fun ext=>TL.load hF rfl (or_at (h3.up (η':=[(b5,Obj.cells (wsC (cutT s 2)).toArray 23 (0,0))]::η) (by simp)) (i:=i) hil 3 _ rfl) rfl TL.fin) ?_
  refine DR.stepV [_,_,_,_,_,_] rfl [(6,_,none)] rfl rfl ⟨⟨rfl,by kernel_rfl⟩,trivial⟩ (fun ext=>TL.move hF rfl rfl TL.fin) ?_
  refine DR.stepV [_,_,_,_,_,_,_] rfl [(86,_,some 5)] rfl rfl ⟨⟨rfl,rfl,rfl⟩,trivial⟩ (fun ext=>TL.len hF rfl rfl TL.fin) ?_
  refine DR.stepV [_,_,_,_,_,_,_,_] rfl [(85,_,some 4),(87,_,some 6)] rfl rfl ⟨⟨rfl,rfl,rfl⟩,⟨rfl,rfl,rfl⟩,trivial⟩ (fun ext=>TL.callV hF (Lies_fn W[i].word 1 (L.length:Int)) rfl rfl TL.fin) ?_
  refine DR.stepV [_,_,_,_,_,_,_,_,_] rfl [(88,_,some 7)] rfl rfl ⟨⟨rfl,rfl,rfl⟩,trivial⟩ (fun ext=>TL.not hF rfl rfl TL.fin) ?_
  refine DR.stepV [_,_,_,_,_,_,_,_,_,_] rfl [(89,_,some 8)] rfl rfl ⟨⟨rfl,rfl,rfl⟩,trivial⟩ (fun ext=>TL.move hF rfl rfl TL.fin) ?_
  refine DR.stepV [_,_,_,_,_,_,_,_,_,_,_] rfl [(11,_,none),(90,_,some 9)] rfl rfl ⟨⟨rfl,by kernel_rfl⟩,⟨rfl,rfl,rfl⟩,trivial⟩ (fun ext=>TL.on rfl rfl rfl (by rw [hwd,hwc]; simp; omega) <| TL.move hF rfl rfl TL.fin) ?_
  refine DR.stepV [_,_,_,_,_,_,_,_,_,_,_,_] rfl [(18,_,none),(90,_,some 9)] rfl rfl ⟨⟨rfl,by kernel_rfl⟩,⟨rfl,rfl,rfl⟩,trivial⟩ (fun ext=>TL.on rfl rfl rfl (by rw [hwd,hwc]; simp; omega) <| TL.move hF rfl rfl TL.fin) ?_
  refine DR.stepV [_,_,_,_,_,_,_,_,_,_,_,_,_] rfl [(91,_,some 10),(92,_,some 11),(90,_,some 9)] rfl rfl ⟨⟨rfl,rfl,rfl⟩,⟨rfl,rfl,rfl⟩,⟨rfl,rfl,rfl⟩,trivial⟩ (fun ext=>TL.on rfl rfl rfl (by rw [hwd,hwc]; simp; omega) <| TL.indexAddr hF rfl rfl (by have h9:=or_ad h5 (i:=i) hm5; exact h9) (by omega) (by omega) rfl TL.fin) ?_
  refine DR.stepV [_,_,_,_,_,_,_,_,_,_,_,_,_,_] rfl [(93,_,some 12),(90,_,some 9)] rfl rfl ⟨⟨rfl,rfl,rfl⟩,⟨rfl,rfl,rfl⟩,trivial⟩ (fun ext=>TL.on rfl rfl rfl (by rw [hwd,hwc]; simp; omega) <| TL.fieldAddr hF rfl rfl TL.fin) ?_
  refine DR.stepV [_,_,_,_,_,_,_,_,_,_,_,_,_,_,_] rfl [(94,_,some 13),(90,_,some 9)] rfl rfl ⟨⟨rfl,rfl,rfl⟩,⟨rfl,rfl,rfl⟩,trivial⟩ (fun ext=>TL.on rfl rfl rfl (by rw [hwd,hwc]; simp; omega) <| TL.load hF rfl (show At _ _ _ _ (.int .i64 W[i].fr) by have h9:=or_at (h5.up (η':=[(b5,Obj.cells (wsC (cutT s 2)).toArray 23 (0,0))]::η) (by simp)) (i:=i) hm5 0 _ rfl; rw [e5] at h9; exact h9) rfl TL.fin) ?_
  refine DR.stepV [_,_,_,_,_,_,_,_,_,_,_,_,_,_,_,_] rfl [(7,_,none),(90,_,some 9)] rfl rfl ⟨⟨rfl,by kernel_rfl⟩,⟨rfl,rfl,rfl⟩,trivial⟩ (fun ext=>TL.on rfl rfl rfl (by rw [hwd,hwc]; simp; omega) <| TL.move hF rfl rfl TL.fin) ?_
  refine DR.stepV [_,_,_,_,_,_,_,_,_,_,_,_,_,_,_,_,_] rfl [(18,_,none),(90,_,some 9)] rfl rfl ⟨⟨rfl,by kernel_rfl⟩,⟨rfl,rfl,rfl⟩,trivial⟩ (fun ext=>TL.on rfl rfl rfl (by rw [hwd,hwc]; simp; omega) <| TL.move hF rfl rfl TL.fin) ?_
  refine DR.stepV [_,_,_,_,_,_,_,_,_,_,_,_,_,_,_,_,_,_] rfl [(96,_,some 15),(97,_,some 16),(90,_,some 9)] rfl rfl ⟨⟨rfl,rfl,rfl⟩,⟨rfl,rfl,rfl⟩,⟨rfl,rfl,rfl⟩,trivial⟩ (fun ext=>TL.on rfl rfl rfl (by rw [hwd,hwc]; simp; omega) <| TL.indexAddr hF rfl rfl (or_ad h3 (i:=i) hil) (by omega) (by omega) rfl TL.fin) ?_
  refine DR.stepV [_,_,_,_,_,_,_,_,_,_,_,_,_,_,_,_,_,_,_] rfl [(98,_,some 17),(90,_,some 9)] rfl rfl ⟨⟨rfl,rfl,rfl⟩,⟨rfl,rfl,rfl⟩,trivial⟩ (fun ext=>TL.on rfl rfl rfl (by rw [hwd,hwc]; simp; omega) <| TL.fieldAddr hF rfl rfl TL.fin) ?_
  refine DR.stepV [_,_,_,_,_,_,_,_,_,_,_,_,_,_,_,_,_,_,_,_] rfl [(99,_,some 18),(90,_,some 9)] rfl rfl ⟨⟨rfl,rfl,rfl⟩,⟨rfl,rfl,rfl⟩,trivial⟩ (fun ext=>TL.on rfl rfl rfl (by rw [hwd,hwc]; simp; omega) <| TL.load hF rfl (or_at (h3.up (η':=[(b5,Obj.cells (wsC (cutT s 2)).toArray 23 (0,0))]::η) (by simp)) (i:=i) hil 0 _ rfl) rfl TL.fin) ?_
  refine DR.stepV [_,_,_,_,_,_,_,_,_,_,_,_,_,_,_,_,_,_,_,_,_] rfl [(95,_,some 14),(100,_,some 19),(90,_,some 9)] rfl rfl ⟨⟨rfl,rfl,rfl⟩,⟨rfl,rfl,rfl⟩,⟨rfl,rfl,rfl⟩,trivial⟩ (fun ext=>TL.on rfl rfl rfl (by rw [hwd,hwc]; simp; omega) <| TL.bin hF rfl rfl rfl rfl TL.fin) ?_
  refine DR.stepV [_,_,_,_,_,_,_,_,_,_,_,_,_,_,_,_,_,_,_,_,_,_] rfl [(90,_,some 9),(101,_,some 20)] rfl rfl ⟨⟨rfl,rfl,rfl⟩,⟨rfl,rfl,rfl⟩,trivial⟩ (fun ext=>TL.pickF hF rfl (by rw [hwd,hwc]; simp; omega) rfl rfl TL.fin) ?_
  refine DR.stepV [_,_,_,_,_,_,_,_,_,_,_,_,_,_,_,_,_,_,_,_,_,_,_] rfl [(102,_,some 21)] rfl rfl ⟨⟨rfl,rfl,rfl⟩,trivial⟩ (fun ext=>TL.move hF rfl rfl TL.fin) ?_
  refine DR.stepV [_,_,_,_,_,_,_,_,_,_,_,_,_,_,_,_,_,_,_,_,_,_,_,_] rfl [(9,_,none),(103,_,some 22)] rfl rfl ⟨⟨rfl,by kernel_rfl⟩,⟨rfl,rfl,rfl⟩,trivial⟩ (fun ext=>TL.on rfl rfl rfl (by simp) <| TL.move hF rfl rfl TL.fin) ?_
  refine DR.stepV [_,_,_,_,_,_,_,_,_,_,_,_,_,_,_,_,_,_,_,_,_,_,_,_,_] rfl [(18,_,none),(103,_,some 22)] rfl rfl ⟨⟨rfl,by kernel_rfl⟩,⟨rfl,rfl,rfl⟩,trivial⟩ (fun ext=>TL.on rfl rfl rfl (by simp) <| TL.move hF rfl rfl TL.fin) ?_
  refine DR.stepV [_,_,_,_,_,_,_,_,_,_,_,_,_,_,_,_,_,_,_,_,_,_,_,_,_,_] rfl [(104,_,some 23),(105,_,some 24),(103,_,some 22)] rfl rfl ⟨⟨rfl,rfl,rfl⟩,⟨rfl,rfl,rfl⟩,⟨rfl,rfl,rfl⟩,trivial⟩ (fun ext=>TL.on rfl rfl rfl (by simp) <| TL.indexAddr hF rfl rfl (by have h9:=or_ad h4 (i:=i) hm4; exact h9) (by omega) (by omega) rfl TL.fin) ?_
  refine DR.stepV [_,_,_,_,_,_,_,_,_,_,_,_,_,_,_,_,_,_,_,_,_,_,_,_,_,_,_] rfl [(106,_,some 25),(103,_,some 22)] rfl rfl ⟨⟨rfl,rfl,rfl⟩,⟨rfl,rfl,rfl⟩,trivial⟩ (fun ext=>TL.on rfl rfl rfl (by simp) <| TL.fieldAddr hF rfl rfl TL.fin) ?_
  refine DR.stepV [_,_,_,_,_,_,_,_,_,_,_,_,_,_,_,_,_,_,_,_,_,_,_,_,_,_,_,_] rfl [(107,_,some 26),(103,_,some 22)] rfl rfl ⟨⟨rfl,rfl,rfl⟩,⟨rfl,rfl,rfl⟩,trivial⟩ (fun ext=>TL.on rfl rfl rfl (by simp) <| TL.load hF rfl (show At _ _ _ _ (.int .i64 W[i].key) by have h9:=or_at (h4.up (η':=[(b5,Obj.cells (wsC (cutT s 2)).toArray 23 (0,0))]::η) (by simp)) (i:=i) hm4 2 _ rfl; rw [e4] at h9; exact h9) rfl TL.fin) ?_
  refine DR.stepV [_,_,_,_,_,_,_,_,_,_,_,_,_,_,_,_,_,_,_,_,_,_,_,_,_,_,_,_,_] rfl [(7,_,none),(103,_,some 22)] rfl rfl ⟨⟨rfl,by kernel_rfl⟩,⟨rfl,rfl,rfl⟩,trivial⟩ (fun ext=>TL.on rfl rfl rfl (by simp) <| TL.move hF rfl rfl TL.fin) ?_
  refine DR.stepV [_,_,_,_,_,_,_,_,_,_,_,_,_,_,_,_,_,_,_,_,_,_,_,_,_,_,_,_,_,_] rfl [(18,_,none),(103,_,some 22)] rfl rfl ⟨⟨rfl,by kernel_rfl⟩,⟨rfl,rfl,rfl⟩,trivial⟩ (fun ext=>TL.on rfl rfl rfl (by simp) <| TL.move hF rfl rfl TL.fin) ?_
  refine DR.stepV [_,_,_,_,_,_,_,_,_,_,_,_,_,_,_,_,_,_,_,_,_,_,_,_,_,_,_,_,_,_,_] rfl [(109,_,some 28),(110,_,some 29),(103,_,some 22)] rfl rfl ⟨⟨rfl,rfl,rfl⟩,⟨rfl,rfl,rfl⟩,⟨rfl,rfl,rfl⟩,trivial⟩ (fun ext=>TL.on rfl rfl rfl (by simp) <| TL.indexAddr hF rfl rfl (or_ad h3 (i:=i) hil) (by omega) (by omega) rfl TL.fin) ?_
  refine DR.stepV [_,_,_,_,_,_,_,_,_,_,_,_,_,_,_,_,_,_,_,_,_,_,_,_,_,_,_,_,_,_,_,_] rfl [(111,_,some 30),(103,_,some 22)] rfl rfl ⟨⟨rfl,rfl,rfl⟩,⟨rfl,rfl,rfl⟩,trivial⟩ (fun ext=>TL.on rfl rfl rfl (by simp) <| TL.fieldAddr hF rfl rfl TL.fin) ?_
  refine DR.stepV [_,_,_,_,_,_,_,_,_,_,_,_,_,_,_,_,_,_,_,_,_,_,_,_,_,_,_,_,_,_,_,_,_] rfl [(112,_,some 31),(103,_,some 22)] rfl rfl ⟨⟨rfl,rfl,rfl⟩,⟨rfl,rfl,rfl⟩,trivial⟩ (fun ext=>TL.on rfl rfl rfl (by simp) <| TL.load hF rfl (or_at (h3.up (η':=[(b5,Obj.cells (wsC (cutT s 2)).toArray 23 (0,0))]::η) (by simp)) (i:=i) hil 2 _ rfl) rfl TL.fin) ?_
  refine DR.done [(113,_),(112,_),(111,_),(110,_),(109,_),(108,_),(107,_),(106,_),(105,_),(104,_),(103,_),(102,_),(101,_),(100,_),(99,_),(98,_),(97,_),(96,_),(95,_),(94,_),(93,_),(92,_),(91,_),(90,_),(89,_),(88,_),(87,_),(86,_),(85,_),(84,_),(83,_),(82,_),(81,_)] [_,_] mixed (by kernel_rfl) (by kernel_rfl) (by kernel_rfl) rfl rfl ?_
  refine TL.on rfl rfl rfl (by simp) ?_
  refine TL.bin hF rfl rfl rfl rfl ?_
  refine TL.pickF hF rfl (by simp) rfl rfl ?_
  refine TL.nil ?_
  refine TQ.then_n ?_
  refine T.cond_f rfl (by simp) ?_
  refine T.skip ?_
  refine TQ.then_n ?_
  refine T.seq ?_
  have hfw1:Wd (foldS 1 (wordsX L W[i])):=wd_fold (wordsX_wd hws _)
  have hs1':=hs1
  have hfw1':=hfw1
  unfold Wd at hs1' hfw1' 
  refine T.draw ?_
  refine DR.stepV [_] rfl [(13,_,none)] rfl rfl ⟨⟨rfl,by kernel_rfl⟩,trivial⟩ (fun ext=>TL.move hF rfl rfl TL.fin) ?_
  refine DR.stepV [_,_] rfl [(7,_,none)] rfl rfl ⟨⟨rfl,by kernel_rfl⟩,trivial⟩ (fun ext=>TL.move hF rfl rfl TL.fin) ?_
  refine DR.stepV [_,_,_] rfl [(18,_,none)] rfl rfl ⟨⟨rfl,by kernel_rfl⟩,trivial⟩ (fun ext=>TL.move hF rfl rfl TL.fin) ?_
  refine DR.stepV [_,_,_,_] rfl [(117,_,some 1),(118,_,some 2)] rfl rfl ⟨⟨rfl,rfl,rfl⟩,⟨rfl,rfl,rfl⟩,trivial⟩ (fun ext=>TL.indexAddr hF rfl rfl (or_ad h3 (i:=i) hil) (by omega) (by omega) rfl TL.fin) ?_
  refine DR.stepV [_,_,_,_,_] rfl [(119,_,some 3)] rfl rfl ⟨⟨rfl,rfl,rfl⟩,trivial⟩ (fun ext=>TL.fieldAddr hF rfl rfl TL.fin) ?_
  refine DR.stepV [_,_,_,_,_,_] rfl [(120,_,some 4)] rfl rfl ⟨⟨rfl,rfl,rfl⟩,trivial⟩ (fun ext=>TL.load hF rfl (show At _ _ _ _ (.int .i64 (foldS 0 (wordsX L W[i]))) by rw [← hwd]; exact or_at (h3.up (η':=[(b5,Obj.cells (wsC (cutT s 2)).toArray 23 (0,0))]::η) (by simp)) (i:=i) hil 3 _ rfl) rfl TL.fin) ?_
  refine DR.stepV [_,_,_,_,_,_,_] rfl [(116,_,some 0),(121,_,some 5)] rfl rfl ⟨⟨rfl,rfl,rfl⟩,⟨rfl,rfl,rfl⟩,trivial⟩ (fun ext=>TL.add hF rfl rfl (by first | omega | (dsimp only; omega)) (by first | omega | (dsimp only; omega)) rfl TL.fin) ?_
  refine DR.stepV [_,_,_,_,_,_,_,_] rfl [(14,_,none)] rfl rfl ⟨⟨rfl,by kernel_rfl⟩,trivial⟩ (fun ext=>TL.move hF rfl rfl TL.fin) ?_
  refine DR.stepV [_,_,_,_,_,_,_,_,_] rfl [(9,_,none)] rfl rfl ⟨⟨rfl,by kernel_rfl⟩,trivial⟩ (fun ext=>TL.move hF rfl rfl TL.fin) ?_
  refine DR.stepV [_,_,_,_,_,_,_,_,_,_] rfl [(18,_,none)] rfl rfl ⟨⟨rfl,by kernel_rfl⟩,trivial⟩ (fun ext=>TL.move hF rfl rfl TL.fin) ?_
  refine DR.stepV [_,_,_,_,_,_,_,_,_,_,_] rfl [(124,_,some 8),(125,_,some 9)] rfl rfl ⟨⟨rfl,rfl,rfl⟩,⟨rfl,rfl,rfl⟩,trivial⟩ (fun ext=>TL.indexAddr hF rfl rfl (by have h9:=or_ad h4 (i:=i) hm4; exact h9) (by omega) (by omega) rfl TL.fin) ?_
  refine DR.stepV [_,_,_,_,_,_,_,_,_,_,_,_] rfl [(126,_,some 10)] rfl rfl ⟨⟨rfl,rfl,rfl⟩,trivial⟩ (fun ext=>TL.fieldAddr hF rfl rfl TL.fin) ?_
  refine DR.stepV [_,_,_,_,_,_,_,_,_,_,_,_,_] rfl [(127,_,some 11)] rfl rfl ⟨⟨rfl,rfl,rfl⟩,trivial⟩ (fun ext=>TL.load hF rfl (show At _ _ _ _ (.int .i64 (foldS 1 (wordsX L W[i]))) by have h9:=or_at (h4.up (η':=[(b5,Obj.cells (wsC (cutT s 2)).toArray 23 (0,0))]::η) (by simp)) (i:=i) hm4 3 _ rfl; rw [e4] at h9; exact h9) rfl TL.fin) ?_
  refine DR.stepV [_,_,_,_,_,_,_,_,_,_,_,_,_,_] rfl [(123,_,some 7),(128,_,some 12)] rfl rfl ⟨⟨rfl,rfl,rfl⟩,⟨rfl,rfl,rfl⟩,trivial⟩ (fun ext=>TL.add hF rfl rfl (by first | omega | (dsimp only; omega)) (by first | omega | (dsimp only; omega)) rfl TL.fin) ?_
  refine DR.stepV [_,_,_,_,_,_,_,_,_,_,_,_,_,_,_] rfl [(129,_,some 13)] rfl rfl ⟨⟨rfl,rfl,rfl⟩,trivial⟩ (fun ext=>TL.callV hF (Word_fn (foldTo 1 L W i+foldS 1 (wordsX L W[i]))) rfl rfl TL.fin) ?_
  refine DR.stepV [_,_,_,_,_,_,_,_,_,_,_,_,_,_,_,_] rfl [(15,_,none)] rfl rfl ⟨⟨rfl,by kernel_rfl⟩,trivial⟩ (fun ext=>TL.move hF rfl rfl TL.fin) ?_
  refine DR.stepV [_,_,_,_,_,_,_,_,_,_,_,_,_,_,_,_,_] rfl [(11,_,none)] rfl rfl ⟨⟨rfl,by kernel_rfl⟩,trivial⟩ (fun ext=>TL.move hF rfl rfl TL.fin) ?_
  refine DR.stepV [_,_,_,_,_,_,_,_,_,_,_,_,_,_,_,_,_,_] rfl [(18,_,none)] rfl rfl ⟨⟨rfl,by kernel_rfl⟩,trivial⟩ (fun ext=>TL.move hF rfl rfl TL.fin) ?_
  refine DR.stepV [_,_,_,_,_,_,_,_,_,_,_,_,_,_,_,_,_,_,_] rfl [(132,_,some 16),(133,_,some 17)] rfl rfl ⟨⟨rfl,rfl,rfl⟩,⟨rfl,rfl,rfl⟩,trivial⟩ (fun ext=>TL.indexAddr hF rfl rfl (by have h9:=or_ad h5 (i:=i) hm5; exact h9) (by omega) (by omega) rfl TL.fin) ?_
  refine DR.stepV [_,_,_,_,_,_,_,_,_,_,_,_,_,_,_,_,_,_,_,_] rfl [(134,_,some 18)] rfl rfl ⟨⟨rfl,rfl,rfl⟩,trivial⟩ (fun ext=>TL.fieldAddr hF rfl rfl TL.fin) ?_
  refine DR.stepV [_,_,_,_,_,_,_,_,_,_,_,_,_,_,_,_,_,_,_,_,_] rfl [(135,_,some 19)] rfl rfl ⟨⟨rfl,rfl,rfl⟩,trivial⟩ (fun ext=>TL.load hF rfl (show At _ _ _ _ (.int .i64 (foldS 2 (wordsX L W[i]))) by have h9:=or_at (h5.up (η':=[(b5,Obj.cells (wsC (cutT s 2)).toArray 23 (0,0))]::η) (by simp)) (i:=i) hm5 3 _ rfl; rw [e5] at h9; exact h9) rfl TL.fin) ?_
  refine DR.stepV [_,_,_,_,_,_,_,_,_,_,_,_,_,_,_,_,_,_,_,_,_,_] rfl [(131,_,some 15),(136,_,some 20)] rfl rfl ⟨⟨rfl,rfl,rfl⟩,⟨rfl,rfl,rfl⟩,trivial⟩ (fun ext=>TL.min2 hF rfl rfl rfl TL.fin) ?_
  refine DR.stepV [_,_,_,_,_,_,_,_,_,_,_,_,_,_,_,_,_,_,_,_,_,_,_] rfl [(122,_,some 6)] rfl rfl ⟨⟨rfl,rfl,rfl⟩,trivial⟩ (fun ext=>TL.assign hF rfl rfl TL.fin) ?_
  refine DR.stepV [_,_,_,_,_,_,_,_,_,_,_,_,_,_,_,_,_,_,_,_,_,_,_,_] rfl [(130,_,some 14)] rfl rfl ⟨⟨rfl,rfl,rfl⟩,trivial⟩ (fun ext=>TL.assign hF rfl rfl TL.fin) ?_
  refine DR.done [(14,_),(13,_),(137,_),(136,_),(135,_),(134,_),(133,_),(132,_),(131,_),(130,_),(129,_),(128,_),(127,_),(126,_),(125,_),(124,_),(123,_),(122,_),(121,_),(120,_),(119,_),(118,_),(117,_),(116,_)] [_] mixed (by kernel_rfl) (by kernel_rfl) (by kernel_rfl) rfl rfl ?_
  refine TL.assign hF rfl rfl ?_
  refine TL.nil ?_
  refine TQ.then_n ?_
  refine T.seq ?_
  refine T.region ?_
  refine TL.assign hF rfl rfl ?_
  refine TL.nil ?_
  refine TQ.then_n ?_
  refine T.block ?_
  refine T.loop (ι:=Nat) (fun k=>k≤i) (fun k=>[(4,.bool false),(6,.slice ra L.length rc),(7,.slice ah3 W.length ch3),(9,.slice ah4 W.length ch4),(11,.slice ah5 W.length ch5),(13,.int .i64 (manyTo L W (i+1))),(14,.int .i64 (foldTo 1 L W (i+1))),(15,.int .i64 (foldTo 2 L W (i+1))),(16,.int .i64 0),(17,.int .i64 2147483647),(18,.int .i64 (i:Int)),(19,.int .i64 (k:Int))]) (fun _=>[(b5,Obj.cells (wsC (cutT s 2)).toArray 23 (0,0))]::η) (fun k=>i - k) 0 (Nat.zero_le _) ⟨rfl,rfl,rfl,rfl,rfl,congrArg (fun z=>some (Value.int .i64 z)) (manyTo_step hil).symm,congrArg (fun z=>some (Value.int .i64 z)) (by rw [foldTo_step hil,twoF1]),congrArg (fun z=>some (Value.int .i64 z)) (by rw [foldTo_step hil,twoF2]),rfl,rfl,rfl,rfl,trivial⟩ rfl ?_
  rintro k hk
  refine T.seq ?_
  refine T.seq ?_
  refine T.region ?_
  refine TL.move hF rfl rfl ?_
  refine TL.move hF rfl rfl ?_
  refine TL.bin hF rfl rfl rfl rfl ?_
  refine TL.nil ?_
  refine TQ.then_n ?_
  first | refine T.cond_d rfl (fun ht140=>?_) (fun ht140=>?_) | refine T.cond _ rfl (fun ht140=>?_) (fun ht140=>?_)
  ·refine T.skip ?_
   refine TQ.then_n ?_
   refine T.seq ?_
   refine T.block ?_
   refine T.seq ?_
   have hki:k<i:=by have h:(k:Int)<(i:Int):=ht140; omega
   have hkl:k<W.length:=by omega
   by_cases hkk:W[k].key=W[i].key
   ·refine T.draw ?_
    refine DR.stepV [_] rfl [(7,_,none)] rfl rfl ⟨⟨rfl,by kernel_rfl⟩,trivial⟩ (fun ext=>TL.move hF rfl rfl TL.fin) ?_
    refine DR.stepV [_,_] rfl [(19,_,none)] rfl rfl ⟨⟨rfl,by kernel_rfl⟩,trivial⟩ (fun ext=>TL.move hF rfl rfl TL.fin) ?_
    refine DR.stepV [_,_,_] rfl [(143,_,some 0),(144,_,some 1)] rfl rfl ⟨⟨rfl,rfl,rfl⟩,⟨rfl,rfl,rfl⟩,trivial⟩ (fun ext=>TL.indexAddr hF rfl rfl (or_ad h3 (i:=k) hkl) (by omega) (by omega) rfl TL.fin) ?_
    refine DR.stepV [_,_,_,_] rfl [(145,_,some 2)] rfl rfl ⟨⟨rfl,rfl,rfl⟩,trivial⟩ (fun ext=>TL.fieldAddr hF rfl rfl TL.fin) ?_
    refine DR.stepV [_,_,_,_,_] rfl [(146,_,some 3)] rfl rfl ⟨⟨rfl,rfl,rfl⟩,trivial⟩ (fun ext=>TL.load hF rfl (or_at (h3.up (η':=[(b5,Obj.cells (wsC (cutT s 2)).toArray 23 (0,0))]::η) (by simp)) (i:=k) hkl 2 _ rfl) rfl TL.fin) ?_
    refine DR.stepV [_,_,_,_,_,_] rfl [(7,_,none)] rfl rfl ⟨⟨rfl,by kernel_rfl⟩,trivial⟩ (fun ext=>TL.move hF rfl rfl TL.fin) ?_
    refine DR.stepV [_,_,_,_,_,_,_] rfl [(18,_,none)] rfl rfl ⟨⟨rfl,by kernel_rfl⟩,trivial⟩ (fun ext=>TL.move hF rfl rfl TL.fin) ?_
    refine DR.stepV [_,_,_,_,_,_,_,_] rfl [(148,_,some 5),(149,_,some 6)] rfl rfl ⟨⟨rfl,rfl,rfl⟩,⟨rfl,rfl,rfl⟩,trivial⟩ (fun ext=>TL.indexAddr hF rfl rfl (or_ad h3 (i:=i) hil) (by omega) (by omega) rfl TL.fin) ?_
    refine DR.stepV [_,_,_,_,_,_,_,_,_] rfl [(150,_,some 7)] rfl rfl ⟨⟨rfl,rfl,rfl⟩,trivial⟩ (fun ext=>TL.fieldAddr hF rfl rfl TL.fin) ?_
    refine DR.stepV [_,_,_,_,_,_,_,_,_,_] rfl [(151,_,some 8)] rfl rfl ⟨⟨rfl,rfl,rfl⟩,trivial⟩ (fun ext=>TL.load hF rfl (or_at (h3.up (η':=[(b5,Obj.cells (wsC (cutT s 2)).toArray 23 (0,0))]::η) (by simp)) (i:=i) hil 2 _ rfl) rfl TL.fin) ?_
    refine DR.stepV [_,_,_,_,_,_,_,_,_,_,_] rfl [(147,_,some 4),(152,_,some 9)] rfl rfl ⟨⟨rfl,rfl,rfl⟩,⟨rfl,rfl,rfl⟩,trivial⟩ (fun ext=>TL.bin hF rfl rfl rfl rfl TL.fin) ?_
    refine DR.stepV [_,_,_,_,_,_,_,_,_,_,_,_] rfl [(153,_,some 10)] rfl rfl ⟨⟨rfl,rfl,rfl⟩,trivial⟩ (fun ext=>TL.move hF rfl rfl TL.fin) ?_
    refine DR.stepV [_,_,_,_,_,_,_,_,_,_,_,_,_] rfl [(7,_,none),(154,_,some 11)] rfl rfl ⟨⟨rfl,by kernel_rfl⟩,⟨rfl,rfl,rfl⟩,trivial⟩ (fun ext=>TL.on rfl rfl rfl (by simp [hkk]) <| TL.move hF rfl rfl TL.fin) ?_
    refine DR.stepV [_,_,_,_,_,_,_,_,_,_,_,_,_,_] rfl [(19,_,none),(154,_,some 11)] rfl rfl ⟨⟨rfl,by kernel_rfl⟩,⟨rfl,rfl,rfl⟩,trivial⟩ (fun ext=>TL.on rfl rfl rfl (by simp [hkk]) <| TL.move hF rfl rfl TL.fin) ?_
    refine DR.stepV [_,_,_,_,_,_,_,_,_,_,_,_,_,_,_] rfl [(155,_,some 12),(156,_,some 13),(154,_,some 11)] rfl rfl ⟨⟨rfl,rfl,rfl⟩,⟨rfl,rfl,rfl⟩,⟨rfl,rfl,rfl⟩,trivial⟩ (fun ext=>TL.on rfl rfl rfl (by simp [hkk]) <| TL.indexAddr hF rfl rfl (or_ad h3 (i:=k) hkl) (by omega) (by omega) rfl TL.fin) ?_
    refine DR.stepV [_,_,_,_,_,_,_,_,_,_,_,_,_,_,_,_] rfl [(157,_,some 14),(154,_,some 11)] rfl rfl ⟨⟨rfl,rfl,rfl⟩,⟨rfl,rfl,rfl⟩,trivial⟩ (fun ext=>TL.on rfl rfl rfl (by simp [hkk]) <| TL.fieldAddr hF rfl rfl TL.fin) ?_
    refine DR.stepV [_,_,_,_,_,_,_,_,_,_,_,_,_,_,_,_,_] rfl [(158,_,some 15),(154,_,some 11)] rfl rfl ⟨⟨rfl,rfl,rfl⟩,⟨rfl,rfl,rfl⟩,trivial⟩ (fun ext=>TL.on rfl rfl rfl (by simp [hkk]) <| TL.load hF rfl (or_at (h3.up (η':=[(b5,Obj.cells (wsC (cutT s 2)).toArray 23 (0,0))]::η) (by simp)) (i:=k) hkl 1 _ rfl) rfl TL.fin) ?_
    refine DR.stepV [_,_,_,_,_,_,_,_,_,_,_,_,_,_,_,_,_,_] rfl [(7,_,none),(154,_,some 11)] rfl rfl ⟨⟨rfl,by kernel_rfl⟩,⟨rfl,rfl,rfl⟩,trivial⟩ (fun ext=>TL.on rfl rfl rfl (by simp [hkk]) <| TL.move hF rfl rfl TL.fin) ?_
    refine DR.stepV [_,_,_,_,_,_,_,_,_,_,_,_,_,_,_,_,_,_,_] rfl [(18,_,none),(154,_,some 11)] rfl rfl ⟨⟨rfl,by kernel_rfl⟩,⟨rfl,rfl,rfl⟩,trivial⟩ (fun ext=>TL.on rfl rfl rfl (by simp [hkk]) <| TL.move hF rfl rfl TL.fin) ?_
    refine DR.stepV [_,_,_,_,_,_,_,_,_,_,_,_,_,_,_,_,_,_,_,_] rfl [(160,_,some 17),(161,_,some 18),(154,_,some 11)] rfl rfl ⟨⟨rfl,rfl,rfl⟩,⟨rfl,rfl,rfl⟩,⟨rfl,rfl,rfl⟩,trivial⟩ (fun ext=>TL.on rfl rfl rfl (by simp [hkk]) <| TL.indexAddr hF rfl rfl (or_ad h3 (i:=i) hil) (by omega) (by omega) rfl TL.fin) ?_
    refine DR.stepV [_,_,_,_,_,_,_,_,_,_,_,_,_,_,_,_,_,_,_,_,_] rfl [(162,_,some 19),(154,_,some 11)] rfl rfl ⟨⟨rfl,rfl,rfl⟩,⟨rfl,rfl,rfl⟩,trivial⟩ (fun ext=>TL.on rfl rfl rfl (by simp [hkk]) <| TL.fieldAddr hF rfl rfl TL.fin) ?_
    refine DR.stepV [_,_,_,_,_,_,_,_,_,_,_,_,_,_,_,_,_,_,_,_,_,_] rfl [(163,_,some 20),(154,_,some 11)] rfl rfl ⟨⟨rfl,rfl,rfl⟩,⟨rfl,rfl,rfl⟩,trivial⟩ (fun ext=>TL.on rfl rfl rfl (by simp [hkk]) <| TL.load hF rfl (or_at (h3.up (η':=[(b5,Obj.cells (wsC (cutT s 2)).toArray 23 (0,0))]::η) (by simp)) (i:=i) hil 0 _ rfl) rfl TL.fin) ?_
    refine DR.done [(164,_),(163,_),(162,_),(161,_),(160,_),(159,_),(158,_),(157,_),(156,_),(155,_),(154,_),(153,_),(152,_),(151,_),(150,_),(149,_),(148,_),(147,_),(146,_),(145,_),(144,_),(143,_)] [_,_] mixed (by kernel_rfl) (by kernel_rfl) (by kernel_rfl) rfl rfl ?_
    refine TL.on rfl rfl rfl (by simp [hkk]) ?_
    refine TL.bin hF rfl rfl rfl rfl ?_
    refine TL.pickT hF rfl (by simp [hkk]) rfl rfl ?_
    refine TL.nil ?_
    refine TQ.then_n ?_
    refine T.cond_f rfl (by
     have hup:=all_up hq0.w L
     rw [← hWe] at hup
     have hlt:=List.pairwise_iff_getElem.1 hup k i hkl hil hki
     rw [oLt_iff] at hlt
     have hxk:W[k]∈allS (cutT s 0) L:=by rw [← hWe]; exact List.getElem_mem hkl
     have h9:=all_apart hTm hxk hxw hkk (by omega)
     simp; omega) ?_
    refine T.skip ?_
    refine TQ.block_n ?_
    refine TQ.then_n ?_
    refine T.region ?_
    refine TL.move hF rfl rfl ?_
    refine TL.add hF rfl rfl (by first | omega | (dsimp only; omega)) (by first | omega | (dsimp only; omega)) rfl ?_
    refine TL.assign hF rfl rfl ?_
    refine TL.nil ?_
    exact TQ.round (k+1) (by omega) (by omega) ⟨rfl,rfl,rfl,rfl,rfl,rfl,rfl,rfl,rfl,rfl,rfl,rfl,trivial⟩ rfl
   ·refine T.draw ?_
    refine DR.stepV [_] rfl [(7,_,none)] rfl rfl ⟨⟨rfl,by kernel_rfl⟩,trivial⟩ (fun ext=>TL.move hF rfl rfl TL.fin) ?_
    refine DR.stepV [_,_] rfl [(19,_,none)] rfl rfl ⟨⟨rfl,by kernel_rfl⟩,trivial⟩ (fun ext=>TL.move hF rfl rfl TL.fin) ?_
    refine DR.stepV [_,_,_] rfl [(143,_,some 0),(144,_,some 1)] rfl rfl ⟨⟨rfl,rfl,rfl⟩,⟨rfl,rfl,rfl⟩,trivial⟩ (fun ext=>TL.indexAddr hF rfl rfl (or_ad h3 (i:=k) hkl) (by omega) (by omega) rfl TL.fin) ?_
    refine DR.stepV [_,_,_,_] rfl [(145,_,some 2)] rfl rfl ⟨⟨rfl,rfl,rfl⟩,trivial⟩ (fun ext=>TL.fieldAddr hF rfl rfl TL.fin) ?_
    refine DR.stepV [_,_,_,_,_] rfl [(146,_,some 3)] rfl rfl ⟨⟨rfl,rfl,rfl⟩,trivial⟩ (fun ext=>TL.load hF rfl (or_at (h3.up (η':=[(b5,Obj.cells (wsC (cutT s 2)).toArray 23 (0,0))]::η) (by simp)) (i:=k) hkl 2 _ rfl) rfl TL.fin) ?_
    refine DR.stepV [_,_,_,_,_,_] rfl [(7,_,none)] rfl rfl ⟨⟨rfl,by kernel_rfl⟩,trivial⟩ (fun ext=>TL.move hF rfl rfl TL.fin) ?_
    refine DR.stepV [_,_,_,_,_,_,_] rfl [(18,_,none)] rfl rfl ⟨⟨rfl,by kernel_rfl⟩,trivial⟩ (fun ext=>TL.move hF rfl rfl TL.fin) ?_
    refine DR.stepV [_,_,_,_,_,_,_,_] rfl [(148,_,some 5),(149,_,some 6)] rfl rfl ⟨⟨rfl,rfl,rfl⟩,⟨rfl,rfl,rfl⟩,trivial⟩ (fun ext=>TL.indexAddr hF rfl rfl (or_ad h3 (i:=i) hil) (by omega) (by omega) rfl TL.fin) ?_
    refine DR.stepV [_,_,_,_,_,_,_,_,_] rfl [(150,_,some 7)] rfl rfl ⟨⟨rfl,rfl,rfl⟩,trivial⟩ (fun ext=>TL.fieldAddr hF rfl rfl TL.fin) ?_
    refine DR.stepV [_,_,_,_,_,_,_,_,_,_] rfl [(151,_,some 8)] rfl rfl ⟨⟨rfl,rfl,rfl⟩,trivial⟩ (fun ext=>TL.load hF rfl (or_at (h3.up (η':=[(b5,Obj.cells (wsC (cutT s 2)).toArray 23 (0,0))]::η) (by simp)) (i:=i) hil 2 _ rfl) rfl TL.fin) ?_
    refine DR.stepV [_,_,_,_,_,_,_,_,_,_,_] rfl [(147,_,some 4),(152,_,some 9)] rfl rfl ⟨⟨rfl,rfl,rfl⟩,⟨rfl,rfl,rfl⟩,trivial⟩ (fun ext=>TL.bin hF rfl rfl rfl rfl TL.fin) ?_
    refine DR.stepV [_,_,_,_,_,_,_,_,_,_,_,_] rfl [(153,_,some 10)] rfl rfl ⟨⟨rfl,rfl,rfl⟩,trivial⟩ (fun ext=>TL.move hF rfl rfl TL.fin) ?_
    refine DR.stepV [_,_,_,_,_,_,_,_,_,_,_,_,_] rfl [(7,_,none),(154,_,some 11)] rfl rfl ⟨⟨rfl,by kernel_rfl⟩,⟨rfl,rfl,rfl⟩,trivial⟩ (fun ext=>TL.off hF rfl rfl rfl (by simp [hkk]) rfl TL.fin) ?_
    refine DR.stepV [_,_,_,_,_,_,_,_,_,_,_,_,_,_] rfl [(19,_,none),(154,_,some 11)] rfl rfl ⟨⟨rfl,by kernel_rfl⟩,⟨rfl,rfl,rfl⟩,trivial⟩ (fun ext=>TL.off hF rfl rfl rfl (by simp [hkk]) rfl TL.fin) ?_
    refine DR.stepV [_,_,_,_,_,_,_,_,_,_,_,_,_,_,_] rfl [(155,_,some 12),(156,_,some 13),(154,_,some 11)] rfl rfl ⟨⟨rfl,rfl,rfl⟩,⟨rfl,rfl,rfl⟩,⟨rfl,rfl,rfl⟩,trivial⟩ (fun ext=>TL.off hF rfl rfl rfl (by simp [hkk]) rfl TL.fin) ?_
    refine DR.stepV [_,_,_,_,_,_,_,_,_,_,_,_,_,_,_,_] rfl [(157,_,some 14),(154,_,some 11)] rfl rfl ⟨⟨rfl,rfl,rfl⟩,⟨rfl,rfl,rfl⟩,trivial⟩ (fun ext=>TL.off hF rfl rfl rfl (by simp [hkk]) rfl TL.fin) ?_
    refine DR.stepV [_,_,_,_,_,_,_,_,_,_,_,_,_,_,_,_,_] rfl [(158,_,some 15),(154,_,some 11)] rfl rfl ⟨⟨rfl,rfl,rfl⟩,⟨rfl,rfl,rfl⟩,trivial⟩ (fun ext=>TL.off hF rfl rfl rfl (by simp [hkk]) rfl TL.fin) ?_
    refine DR.stepV [_,_,_,_,_,_,_,_,_,_,_,_,_,_,_,_,_,_] rfl [(7,_,none),(154,_,some 11)] rfl rfl ⟨⟨rfl,by kernel_rfl⟩,⟨rfl,rfl,rfl⟩,trivial⟩ (fun ext=>TL.off hF rfl rfl rfl (by simp [hkk]) rfl TL.fin) ?_
    refine DR.stepV [_,_,_,_,_,_,_,_,_,_,_,_,_,_,_,_,_,_,_] rfl [(18,_,none),(154,_,some 11)] rfl rfl ⟨⟨rfl,by kernel_rfl⟩,⟨rfl,rfl,rfl⟩,trivial⟩ (fun ext=>TL.off hF rfl rfl rfl (by simp [hkk]) rfl TL.fin) ?_
    refine DR.stepV [_,_,_,_,_,_,_,_,_,_,_,_,_,_,_,_,_,_,_,_] rfl [(160,_,some 17),(161,_,some 18),(154,_,some 11)] rfl rfl ⟨⟨rfl,rfl,rfl⟩,⟨rfl,rfl,rfl⟩,⟨rfl,rfl,rfl⟩,trivial⟩ (fun ext=>TL.off hF rfl rfl rfl (by simp [hkk]) rfl TL.fin) ?_
    refine DR.stepV [_,_,_,_,_,_,_,_,_,_,_,_,_,_,_,_,_,_,_,_,_] rfl [(162,_,some 19),(154,_,some 11)] rfl rfl ⟨⟨rfl,rfl,rfl⟩,⟨rfl,rfl,rfl⟩,trivial⟩ (fun ext=>TL.off hF rfl rfl rfl (by simp [hkk]) rfl TL.fin) ?_
    refine DR.stepV [_,_,_,_,_,_,_,_,_,_,_,_,_,_,_,_,_,_,_,_,_,_] rfl [(163,_,some 20),(154,_,some 11)] rfl rfl ⟨⟨rfl,rfl,rfl⟩,⟨rfl,rfl,rfl⟩,trivial⟩ (fun ext=>TL.off hF rfl rfl rfl (by simp [hkk]) rfl TL.fin) ?_
    refine DR.done [(164,_),(163,_),(162,_),(161,_),(160,_),(159,_),(158,_),(157,_),(156,_),(155,_),(154,_),(153,_),(152,_),(151,_),(150,_),(149,_),(148,_),(147,_),(146,_),(145,_),(144,_),(143,_)] [_,_] mixed (by kernel_rfl) (by kernel_rfl) (by kernel_rfl) rfl rfl ?_
    refine TL.off hF rfl rfl rfl (by simp [hkk]) rfl ?_
    refine TL.pickF hF rfl (by simp [hkk]) rfl rfl ?_
    refine TL.nil ?_
    refine TQ.then_n ?_
    refine T.cond_f rfl rfl ?_
    refine T.skip ?_
    refine TQ.block_n ?_
    refine TQ.then_n ?_
    refine T.region ?_
    refine TL.move hF rfl rfl ?_
    refine TL.add hF rfl rfl (by first | omega | (dsimp only; omega)) (by first | omega | (dsimp only; omega)) rfl ?_
    refine TL.assign hF rfl rfl ?_
    refine TL.nil ?_
    exact TQ.round (k+1) (by omega) (by omega) ⟨rfl,rfl,rfl,rfl,rfl,rfl,rfl,rfl,rfl,rfl,rfl,rfl,trivial⟩ rfl
  ·refine T.exit ?_
   refine TQ.then_x ?_
   refine TQ.then_x ?_
   refine TQ.block_x ?_
   refine TQ.block_n ?_
   refine TQ.then_n ?_
   refine T.region ?_
   refine TL.move hF rfl rfl ?_
   refine TL.add hF rfl rfl (by first | omega | (dsimp only; omega)) (by first | omega | (dsimp only; omega)) rfl ?_
   refine TL.assign hF rfl rfl ?_
   refine TL.nil ?_
   exact TQ.round (i+1) (by omega) (by omega) ⟨rfl,rfl,rfl,rfl,rfl,rfl,rfl,rfl,rfl,rfl,rfl,trivial⟩ rfl
 ·refine T.exit ?_
  refine TQ.then_x ?_
  refine TQ.then_x ?_
  refine TQ.block_x ?_
  refine TQ.then_n ?_
  refine T.seq ?_
  refine T.seq ?_
  refine T.region ?_
  refine TL.assign hF rfl rfl ?_
  refine TL.nil ?_
  refine TQ.then_n ?_
  refine T.block ?_
  have hie:i=W.length:=by have h:¬ (i:Int)<(W.length:Int):=ht78; omega
  rw [hie]
  refine T.loop (ι:=Nat) (fun j=>j≤L.length) (fun j=>[(4,.bool false),(6,.slice ra L.length rc),(7,.slice ah3 W.length ch3),(13,.int .i64 (manyTo L W W.length)),(14,.int .i64 (foldTo 1 L W W.length)),(15,.int .i64 (foldTo 2 L W W.length)),(16,.int .i64 (foldS 1 ((L.map (·.word)).take j))),(17,.int .i64 (foldS 2 ((L.map (·.word)).take j))),(20,.int .i64 (j:Int))]) (fun _=>[(b5,Obj.cells (wsC (cutT s 2)).toArray 23 (0,0))]::η) (fun j=>L.length - j) 0 (Nat.zero_le _) ⟨rfl,rfl,rfl,rfl,rfl,rfl,rfl,rfl,rfl,trivial⟩ rfl ?_
  rintro j hj
  refine T.seq ?_
  refine T.seq ?_
  refine T.region ?_
  refine TL.move hF rfl rfl ?_
  refine TL.move hF rfl rfl ?_
  refine TL.len hF rfl rfl ?_
  refine TL.bin hF rfl rfl rfl rfl ?_
  refine TL.nil ?_
  refine TQ.then_n ?_
  first | refine T.cond_d rfl (fun ht170=>?_) (fun ht170=>?_) | refine T.cond _ rfl (fun ht170=>?_) (fun ht170=>?_)
  ·refine T.skip ?_
   refine TQ.then_n ?_
   refine T.seq ?_
   refine T.block ?_
   refine T.seq ?_
   have hjl:j<L.length:=by have h:(j:Int)<(L.length:Int):=ht170; omega
   have hjm:j<(L.map (·.word)).length:=by rw [List.length_map]; exact hjl
   have hjw:(L.map (·.word))[j]=L[j].word:=by simp
   have hall:∀ w∈L.map (·.word),Wd w:=fun w h=>by obtain ⟨r,hr,rfl⟩:=List.mem_map.1 h; exact hws r hr
   have ho1:Wd (foldS 1 ((L.map (·.word)).take j)):=wd_fold fun w h=>hall w (List.mem_of_mem_take h)
   have hwj:=hws _ (List.getElem_mem hjl)
   unfold Wd at ho1 hwj
   have hsn:∀ f:Int,f≠0→foldS f ((L.map (·.word)).take (j+1))=twoF f (foldS f ((L.map (·.word)).take j)) L[j].word:=fun f hf=>by
    rw [List.take_succ_eq_append_getElem hjm,fold_snoc (fun w h=>hall w (List.mem_of_mem_take h)) (by rw [hjw]; exact hws _ (List.getElem_mem hjl)),hjw]
    unfold oneF; rw [if_neg hf]
   refine T.draw ?_
   refine DR.stepV [_] rfl [(16,_,none)] rfl rfl ⟨⟨rfl,by kernel_rfl⟩,trivial⟩ (fun ext=>TL.move hF rfl rfl TL.fin) ?_
   refine DR.stepV [_,_] rfl [(6,_,none)] rfl rfl ⟨⟨rfl,by kernel_rfl⟩,trivial⟩ (fun ext=>TL.move hF rfl rfl TL.fin) ?_
   refine DR.stepV [_,_,_] rfl [(20,_,none)] rfl rfl ⟨⟨rfl,by kernel_rfl⟩,trivial⟩ (fun ext=>TL.move hF rfl rfl TL.fin) ?_
   refine DR.stepV [_,_,_,_] rfl [(174,_,some 1),(175,_,some 2)] rfl rfl ⟨⟨rfl,rfl,rfl⟩,⟨rfl,rfl,rfl⟩,trivial⟩ (fun ext=>TL.indexAddr hF rfl rfl (rr_ad hlr hjl) (by omega) (by omega) rfl TL.fin) ?_
   refine DR.stepV [_,_,_,_,_] rfl [(176,_,some 3)] rfl rfl ⟨⟨rfl,rfl,rfl⟩,trivial⟩ (fun ext=>TL.fieldAddr hF rfl rfl TL.fin) ?_
   refine DR.stepV [_,_,_,_,_,_] rfl [(177,_,some 4)] rfl rfl ⟨⟨rfl,rfl,rfl⟩,trivial⟩ (fun ext=>TL.load hF rfl (rr_at (hlr.up (η':=[(b5,Obj.cells (wsC (cutT s 2)).toArray 23 (0,0))]::η) (by simp)) hjl 2 _ rfl) rfl TL.fin) ?_
   refine DR.stepV [_,_,_,_,_,_,_] rfl [(173,_,some 0),(178,_,some 5)] rfl rfl ⟨⟨rfl,rfl,rfl⟩,⟨rfl,rfl,rfl⟩,trivial⟩ (fun ext=>TL.add hF rfl rfl (by first | omega | (dsimp only; omega)) (by first | omega | (dsimp only; omega)) rfl TL.fin) ?_
   refine DR.stepV [_,_,_,_,_,_,_,_] rfl [(179,_,some 6)] rfl rfl ⟨⟨rfl,rfl,rfl⟩,trivial⟩ (fun ext=>TL.callV hF (Word_fn (foldS 1 ((L.map (·.word)).take j)+L[j].word)) rfl rfl TL.fin) ?_
   refine DR.stepV [_,_,_,_,_,_,_,_,_] rfl [(17,_,none)] rfl rfl ⟨⟨rfl,by kernel_rfl⟩,trivial⟩ (fun ext=>TL.move hF rfl rfl TL.fin) ?_
   refine DR.stepV [_,_,_,_,_,_,_,_,_,_] rfl [(6,_,none)] rfl rfl ⟨⟨rfl,by kernel_rfl⟩,trivial⟩ (fun ext=>TL.move hF rfl rfl TL.fin) ?_
   refine DR.stepV [_,_,_,_,_,_,_,_,_,_,_] rfl [(20,_,none)] rfl rfl ⟨⟨rfl,by kernel_rfl⟩,trivial⟩ (fun ext=>TL.move hF rfl rfl TL.fin) ?_
   refine DR.stepV [_,_,_,_,_,_,_,_,_,_,_,_] rfl [(182,_,some 9),(183,_,some 10)] rfl rfl ⟨⟨rfl,rfl,rfl⟩,⟨rfl,rfl,rfl⟩,trivial⟩ (fun ext=>TL.indexAddr hF rfl rfl (rr_ad hlr hjl) (by omega) (by omega) rfl TL.fin) ?_
   refine DR.stepV [_,_,_,_,_,_,_,_,_,_,_,_,_] rfl [(184,_,some 11)] rfl rfl ⟨⟨rfl,rfl,rfl⟩,trivial⟩ (fun ext=>TL.fieldAddr hF rfl rfl TL.fin) ?_
   refine DR.stepV [_,_,_,_,_,_,_,_,_,_,_,_,_,_] rfl [(185,_,some 12)] rfl rfl ⟨⟨rfl,rfl,rfl⟩,trivial⟩ (fun ext=>TL.load hF rfl (rr_at (hlr.up (η':=[(b5,Obj.cells (wsC (cutT s 2)).toArray 23 (0,0))]::η) (by simp)) hjl 2 _ rfl) rfl TL.fin) ?_
   refine DR.stepV [_,_,_,_,_,_,_,_,_,_,_,_,_,_,_] rfl [(181,_,some 8),(186,_,some 13)] rfl rfl ⟨⟨rfl,rfl,rfl⟩,⟨rfl,rfl,rfl⟩,trivial⟩ (fun ext=>TL.min2 hF rfl rfl rfl TL.fin) ?_
   refine DR.stepV [_,_,_,_,_,_,_,_,_,_,_,_,_,_,_,_] rfl [(180,_,some 7)] rfl rfl ⟨⟨rfl,rfl,rfl⟩,trivial⟩ (fun ext=>TL.assign hF rfl rfl TL.fin) ?_
   refine DR.done [(16,_),(187,_),(186,_),(185,_),(184,_),(183,_),(182,_),(181,_),(180,_),(179,_),(178,_),(177,_),(176,_),(175,_),(174,_),(173,_)] [_] mixed (by kernel_rfl) (by kernel_rfl) (by kernel_rfl) rfl rfl ?_
   refine TL.assign hF rfl rfl ?_
   refine TL.nil ?_
   refine TQ.then_n ?_
   refine T.seq ?_
   refine T.region ?_
   refine TL.assign hF rfl rfl ?_
   refine TL.nil ?_
   refine TQ.then_n ?_
   refine T.seq ?_
   refine T.seq ?_
   refine T.region ?_
   refine TL.assign hF rfl rfl ?_
   refine TL.nil ?_
   refine TQ.then_n ?_
   refine T.block ?_
   refine T.loop (ι:=Nat) (fun k=>k≤W.length) (fun k=>[(4,.bool false),(6,.slice ra L.length rc),(7,.slice ah3 W.length ch3),(13,.int .i64 (manyTo L W W.length)),(14,.int .i64 (foldTo 1 L W W.length)),(15,.int .i64 (foldTo 2 L W W.length)),(16,.int .i64 (foldS 1 ((L.map (·.word)).take (j+1)))),(17,.int .i64 (foldS 2 ((L.map (·.word)).take (j+1)))),(20,.int .i64 (j:Int)),(21,.int .i64 (((W.take k).countP (fun x=>inX x L[j])):Int)),(22,.int .i64 (k:Int))]) (fun _=>[(b5,Obj.cells (wsC (cutT s 2)).toArray 23 (0,0))]::η) (fun k=>W.length - k) 0 (Nat.zero_le _) ⟨rfl,rfl,rfl,rfl,rfl,rfl,congrArg (fun z=>some (Value.int .i64 z)) (by rw [hsn 1 (by decide),twoF1]),congrArg (fun z=>some (Value.int .i64 z)) (by rw [hsn 2 (by decide),twoF2]),rfl,rfl,rfl,trivial⟩ rfl ?_
   rintro k hk
   refine T.seq ?_
   refine T.seq ?_
   refine T.region ?_
   refine TL.move hF rfl rfl ?_
   refine TL.move hF rfl rfl ?_
   refine TL.len hF rfl rfl ?_
   refine TL.bin hF rfl rfl rfl rfl ?_
   refine TL.nil ?_
   refine TQ.then_n ?_
   first | refine T.cond_d rfl (fun ht191=>?_) (fun ht191=>?_) | refine T.cond _ rfl (fun ht191=>?_) (fun ht191=>?_)
   ·refine T.skip ?_
    refine TQ.then_n ?_
    refine T.seq ?_
    refine T.block ?_
    refine T.seq ?_
    have hkl:k<W.length:=by have h:(k:Int)<(W.length:Int):=ht191; omega
    have hcs:=countP_step (r:=L[j]) hkl
    have hcb:((W.take k).countP (fun x=>inX x L[j]))≤k:=Nat.le_trans List.countP_le_length (by rw [List.length_take]; omega)
    rcases three (a:=W[k].key=L[j].key) (b:=W[k].fr≤L[j].time) with hA | ⟨hA,hB⟩ | ⟨hA,hB⟩
    ·refine T.draw ?_
     refine DR.stepV [_] rfl [(7,_,none)] rfl rfl ⟨⟨rfl,by kernel_rfl⟩,trivial⟩ (fun ext=>TL.move hF rfl rfl TL.fin) ?_
     refine DR.stepV [_,_] rfl [(22,_,none)] rfl rfl ⟨⟨rfl,by kernel_rfl⟩,trivial⟩ (fun ext=>TL.move hF rfl rfl TL.fin) ?_
     refine DR.stepV [_,_,_] rfl [(194,_,some 0),(195,_,some 1)] rfl rfl ⟨⟨rfl,rfl,rfl⟩,⟨rfl,rfl,rfl⟩,trivial⟩ (fun ext=>TL.indexAddr hF rfl rfl (or_ad h3 (i:=k) hkl) (by omega) (by omega) rfl TL.fin) ?_
     refine DR.stepV [_,_,_,_] rfl [(196,_,some 2)] rfl rfl ⟨⟨rfl,rfl,rfl⟩,trivial⟩ (fun ext=>TL.fieldAddr hF rfl rfl TL.fin) ?_
     refine DR.stepV [_,_,_,_,_] rfl [(197,_,some 3)] rfl rfl ⟨⟨rfl,rfl,rfl⟩,trivial⟩ (fun ext=>TL.load hF rfl (or_at (h3.up (η':=[(b5,Obj.cells (wsC (cutT s 2)).toArray 23 (0,0))]::η) (by simp)) (i:=k) hkl 2 _ rfl) rfl TL.fin) ?_
     refine DR.stepV [_,_,_,_,_,_] rfl [(6,_,none)] rfl rfl ⟨⟨rfl,by kernel_rfl⟩,trivial⟩ (fun ext=>TL.move hF rfl rfl TL.fin) ?_
     refine DR.stepV [_,_,_,_,_,_,_] rfl [(20,_,none)] rfl rfl ⟨⟨rfl,by kernel_rfl⟩,trivial⟩ (fun ext=>TL.move hF rfl rfl TL.fin) ?_
     refine DR.stepV [_,_,_,_,_,_,_,_] rfl [(199,_,some 5),(200,_,some 6)] rfl rfl ⟨⟨rfl,rfl,rfl⟩,⟨rfl,rfl,rfl⟩,trivial⟩ (fun ext=>TL.indexAddr hF rfl rfl (rr_ad hlr hjl) (by omega) (by omega) rfl TL.fin) ?_
     refine DR.stepV [_,_,_,_,_,_,_,_,_] rfl [(201,_,some 7)] rfl rfl ⟨⟨rfl,rfl,rfl⟩,trivial⟩ (fun ext=>TL.fieldAddr hF rfl rfl TL.fin) ?_
     refine DR.stepV [_,_,_,_,_,_,_,_,_,_] rfl [(202,_,some 8)] rfl rfl ⟨⟨rfl,rfl,rfl⟩,trivial⟩ (fun ext=>TL.load hF rfl (rr_at (hlr.up (η':=[(b5,Obj.cells (wsC (cutT s 2)).toArray 23 (0,0))]::η) (by simp)) hjl 1 _ rfl) rfl TL.fin) ?_
     refine DR.stepV [_,_,_,_,_,_,_,_,_,_,_] rfl [(198,_,some 4),(203,_,some 9)] rfl rfl ⟨⟨rfl,rfl,rfl⟩,⟨rfl,rfl,rfl⟩,trivial⟩ (fun ext=>TL.bin hF rfl rfl rfl rfl TL.fin) ?_
     refine DR.stepV [_,_,_,_,_,_,_,_,_,_,_,_] rfl [(204,_,some 10)] rfl rfl ⟨⟨rfl,rfl,rfl⟩,trivial⟩ (fun ext=>TL.move hF rfl rfl TL.fin) ?_
     refine DR.stepV [_,_,_,_,_,_,_,_,_,_,_,_,_] rfl [(6,_,none),(205,_,some 11)] rfl rfl ⟨⟨rfl,by kernel_rfl⟩,⟨rfl,rfl,rfl⟩,trivial⟩ (fun ext=>TL.off hF rfl rfl rfl (by simp [hA]) rfl TL.fin) ?_
     refine DR.stepV [_,_,_,_,_,_,_,_,_,_,_,_,_,_] rfl [(20,_,none),(205,_,some 11)] rfl rfl ⟨⟨rfl,by kernel_rfl⟩,⟨rfl,rfl,rfl⟩,trivial⟩ (fun ext=>TL.off hF rfl rfl rfl (by simp [hA]) rfl TL.fin) ?_
     refine DR.stepV [_,_,_,_,_,_,_,_,_,_,_,_,_,_,_] rfl [(206,_,some 12),(207,_,some 13),(205,_,some 11)] rfl rfl ⟨⟨rfl,rfl,rfl⟩,⟨rfl,rfl,rfl⟩,⟨rfl,rfl,rfl⟩,trivial⟩ (fun ext=>TL.off hF rfl rfl rfl (by simp [hA]) rfl TL.fin) ?_
     refine DR.stepV [_,_,_,_,_,_,_,_,_,_,_,_,_,_,_,_] rfl [(208,_,some 14),(205,_,some 11)] rfl rfl ⟨⟨rfl,rfl,rfl⟩,⟨rfl,rfl,rfl⟩,trivial⟩ (fun ext=>TL.off hF rfl rfl rfl (by simp [hA]) rfl TL.fin) ?_
     refine DR.stepV [_,_,_,_,_,_,_,_,_,_,_,_,_,_,_,_,_] rfl [(209,_,some 15),(205,_,some 11)] rfl rfl ⟨⟨rfl,rfl,rfl⟩,⟨rfl,rfl,rfl⟩,trivial⟩ (fun ext=>TL.off hF rfl rfl rfl (by simp [hA]) rfl TL.fin) ?_
     refine DR.stepV [_,_,_,_,_,_,_,_,_,_,_,_,_,_,_,_,_,_] rfl [(7,_,none),(205,_,some 11)] rfl rfl ⟨⟨rfl,by kernel_rfl⟩,⟨rfl,rfl,rfl⟩,trivial⟩ (fun ext=>TL.off hF rfl rfl rfl (by simp [hA]) rfl TL.fin) ?_
     refine DR.stepV [_,_,_,_,_,_,_,_,_,_,_,_,_,_,_,_,_,_,_] rfl [(22,_,none),(205,_,some 11)] rfl rfl ⟨⟨rfl,by kernel_rfl⟩,⟨rfl,rfl,rfl⟩,trivial⟩ (fun ext=>TL.off hF rfl rfl rfl (by simp [hA]) rfl TL.fin) ?_
     refine DR.stepV [_,_,_,_,_,_,_,_,_,_,_,_,_,_,_,_,_,_,_,_] rfl [(211,_,some 17),(212,_,some 18),(205,_,some 11)] rfl rfl ⟨⟨rfl,rfl,rfl⟩,⟨rfl,rfl,rfl⟩,⟨rfl,rfl,rfl⟩,trivial⟩ (fun ext=>TL.off hF rfl rfl rfl (by simp [hA]) rfl TL.fin) ?_
     refine DR.stepV [_,_,_,_,_,_,_,_,_,_,_,_,_,_,_,_,_,_,_,_,_] rfl [(213,_,some 19),(205,_,some 11)] rfl rfl ⟨⟨rfl,rfl,rfl⟩,⟨rfl,rfl,rfl⟩,trivial⟩ (fun ext=>TL.off hF rfl rfl rfl (by simp [hA]) rfl TL.fin) ?_
     refine DR.stepV [_,_,_,_,_,_,_,_,_,_,_,_,_,_,_,_,_,_,_,_,_,_] rfl [(214,_,some 20),(205,_,some 11)] rfl rfl ⟨⟨rfl,rfl,rfl⟩,⟨rfl,rfl,rfl⟩,trivial⟩ (fun ext=>TL.off hF rfl rfl rfl (by simp [hA]) rfl TL.fin) ?_
     refine DR.stepV [_,_,_,_,_,_,_,_,_,_,_,_,_,_,_,_,_,_,_,_,_,_,_] rfl [(210,_,some 16),(215,_,some 21),(205,_,some 11)] rfl rfl ⟨⟨rfl,rfl,rfl⟩,⟨rfl,rfl,rfl⟩,⟨rfl,rfl,rfl⟩,trivial⟩ (fun ext=>TL.off hF rfl rfl rfl (by simp [hA]) rfl TL.fin) ?_
     refine DR.stepV [_,_,_,_,_,_,_,_,_,_,_,_,_,_,_,_,_,_,_,_,_,_,_,_] rfl [(205,_,some 11),(216,_,some 22)] rfl rfl ⟨⟨rfl,rfl,rfl⟩,⟨rfl,rfl,rfl⟩,trivial⟩ (fun ext=>TL.pickF hF rfl (by simp [hA]) rfl rfl TL.fin) ?_
     refine DR.stepV [_,_,_,_,_,_,_,_,_,_,_,_,_,_,_,_,_,_,_,_,_,_,_,_,_] rfl [(217,_,some 23)] rfl rfl ⟨⟨rfl,rfl,rfl⟩,trivial⟩ (fun ext=>TL.move hF rfl rfl TL.fin) ?_
     refine DR.stepV [_,_,_,_,_,_,_,_,_,_,_,_,_,_,_,_,_,_,_,_,_,_,_,_,_,_] rfl [(6,_,none),(218,_,some 24)] rfl rfl ⟨⟨rfl,by kernel_rfl⟩,⟨rfl,rfl,rfl⟩,trivial⟩ (fun ext=>TL.off hF rfl rfl rfl rfl rfl TL.fin) ?_
     refine DR.stepV [_,_,_,_,_,_,_,_,_,_,_,_,_,_,_,_,_,_,_,_,_,_,_,_,_,_,_] rfl [(20,_,none),(218,_,some 24)] rfl rfl ⟨⟨rfl,by kernel_rfl⟩,⟨rfl,rfl,rfl⟩,trivial⟩ (fun ext=>TL.off hF rfl rfl rfl rfl rfl TL.fin) ?_
     refine DR.stepV [_,_,_,_,_,_,_,_,_,_,_,_,_,_,_,_,_,_,_,_,_,_,_,_,_,_,_,_] rfl [(219,_,some 25),(220,_,some 26),(218,_,some 24)] rfl rfl ⟨⟨rfl,rfl,rfl⟩,⟨rfl,rfl,rfl⟩,⟨rfl,rfl,rfl⟩,trivial⟩ (fun ext=>TL.off hF rfl rfl rfl rfl rfl TL.fin) ?_
     refine DR.stepV [_,_,_,_,_,_,_,_,_,_,_,_,_,_,_,_,_,_,_,_,_,_,_,_,_,_,_,_,_] rfl [(221,_,some 27),(218,_,some 24)] rfl rfl ⟨⟨rfl,rfl,rfl⟩,⟨rfl,rfl,rfl⟩,trivial⟩ (fun ext=>TL.off hF rfl rfl rfl rfl rfl TL.fin) ?_
     refine DR.stepV [_,_,_,_,_,_,_,_,_,_,_,_,_,_,_,_,_,_,_,_,_,_,_,_,_,_,_,_,_,_] rfl [(222,_,some 28),(218,_,some 24)] rfl rfl ⟨⟨rfl,rfl,rfl⟩,⟨rfl,rfl,rfl⟩,trivial⟩ (fun ext=>TL.off hF rfl rfl rfl rfl rfl TL.fin) ?_
     refine DR.stepV [_,_,_,_,_,_,_,_,_,_,_,_,_,_,_,_,_,_,_,_,_,_,_,_,_,_,_,_,_,_,_] rfl [(7,_,none),(218,_,some 24)] rfl rfl ⟨⟨rfl,by kernel_rfl⟩,⟨rfl,rfl,rfl⟩,trivial⟩ (fun ext=>TL.off hF rfl rfl rfl rfl rfl TL.fin) ?_
     refine DR.stepV [_,_,_,_,_,_,_,_,_,_,_,_,_,_,_,_,_,_,_,_,_,_,_,_,_,_,_,_,_,_,_,_] rfl [(22,_,none),(218,_,some 24)] rfl rfl ⟨⟨rfl,by kernel_rfl⟩,⟨rfl,rfl,rfl⟩,trivial⟩ (fun ext=>TL.off hF rfl rfl rfl rfl rfl TL.fin) ?_
     refine DR.stepV [_,_,_,_,_,_,_,_,_,_,_,_,_,_,_,_,_,_,_,_,_,_,_,_,_,_,_,_,_,_,_,_,_] rfl [(224,_,some 30),(225,_,some 31),(218,_,some 24)] rfl rfl ⟨⟨rfl,rfl,rfl⟩,⟨rfl,rfl,rfl⟩,⟨rfl,rfl,rfl⟩,trivial⟩ (fun ext=>TL.off hF rfl rfl rfl rfl rfl TL.fin) ?_
     refine DR.stepV [_,_,_,_,_,_,_,_,_,_,_,_,_,_,_,_,_,_,_,_,_,_,_,_,_,_,_,_,_,_,_,_,_,_] rfl [(226,_,some 32),(218,_,some 24)] rfl rfl ⟨⟨rfl,rfl,rfl⟩,⟨rfl,rfl,rfl⟩,trivial⟩ (fun ext=>TL.off hF rfl rfl rfl rfl rfl TL.fin) ?_
     refine DR.stepV [_,_,_,_,_,_,_,_,_,_,_,_,_,_,_,_,_,_,_,_,_,_,_,_,_,_,_,_,_,_,_,_,_,_,_] rfl [(227,_,some 33),(218,_,some 24)] rfl rfl ⟨⟨rfl,rfl,rfl⟩,⟨rfl,rfl,rfl⟩,trivial⟩ (fun ext=>TL.off hF rfl rfl rfl rfl rfl TL.fin) ?_
     refine DR.done [(228,_),(227,_),(226,_),(225,_),(224,_),(223,_),(222,_),(221,_),(220,_),(219,_),(218,_),(217,_),(216,_),(215,_),(214,_),(213,_),(212,_),(211,_),(210,_),(209,_),(208,_),(207,_),(206,_),(205,_),(204,_),(203,_),(202,_),(201,_),(200,_),(199,_),(198,_),(197,_),(196,_),(195,_),(194,_)] [_,_] mixed (by kernel_rfl) (by kernel_rfl) (by kernel_rfl) rfl rfl ?_
     refine TL.off hF rfl rfl rfl rfl rfl ?_
     refine TL.pickF hF rfl rfl rfl rfl ?_
     refine TL.nil ?_
     refine TQ.then_n ?_
     refine T.cond_f rfl rfl ?_
     refine T.skip ?_
     refine TQ.block_n ?_
     refine TQ.then_n ?_
     refine T.region ?_
     refine TL.move hF rfl rfl ?_
     refine TL.add hF rfl rfl (by first | omega | (dsimp only; omega)) (by first | omega | (dsimp only; omega)) rfl ?_
     refine TL.assign hF rfl rfl ?_
     refine TL.nil ?_
     have hin:¬ inX W[k] L[j]=true:=by rw [inX_iff]; exact fun h=>hA h.1
     rw [if_neg hin,Nat.add_zero] at hcs
     exact TQ.round (k+1) (by omega) (by omega) ⟨rfl,rfl,rfl,rfl,rfl,rfl,rfl,rfl,rfl,by rw [hcs]; rfl,rfl,trivial⟩ rfl
    ·refine T.draw ?_
     refine DR.stepV [_] rfl [(7,_,none)] rfl rfl ⟨⟨rfl,by kernel_rfl⟩,trivial⟩ (fun ext=>TL.move hF rfl rfl TL.fin) ?_
     refine DR.stepV [_,_] rfl [(22,_,none)] rfl rfl ⟨⟨rfl,by kernel_rfl⟩,trivial⟩ (fun ext=>TL.move hF rfl rfl TL.fin) ?_
     refine DR.stepV [_,_,_] rfl [(194,_,some 0),(195,_,some 1)] rfl rfl ⟨⟨rfl,rfl,rfl⟩,⟨rfl,rfl,rfl⟩,trivial⟩ (fun ext=>TL.indexAddr hF rfl rfl (or_ad h3 (i:=k) hkl) (by omega) (by omega) rfl TL.fin) ?_
     refine DR.stepV [_,_,_,_] rfl [(196,_,some 2)] rfl rfl ⟨⟨rfl,rfl,rfl⟩,trivial⟩ (fun ext=>TL.fieldAddr hF rfl rfl TL.fin) ?_
     refine DR.stepV [_,_,_,_,_] rfl [(197,_,some 3)] rfl rfl ⟨⟨rfl,rfl,rfl⟩,trivial⟩ (fun ext=>TL.load hF rfl (or_at (h3.up (η':=[(b5,Obj.cells (wsC (cutT s 2)).toArray 23 (0,0))]::η) (by simp)) (i:=k) hkl 2 _ rfl) rfl TL.fin) ?_
     refine DR.stepV [_,_,_,_,_,_] rfl [(6,_,none)] rfl rfl ⟨⟨rfl,by kernel_rfl⟩,trivial⟩ (fun ext=>TL.move hF rfl rfl TL.fin) ?_
     refine DR.stepV [_,_,_,_,_,_,_] rfl [(20,_,none)] rfl rfl ⟨⟨rfl,by kernel_rfl⟩,trivial⟩ (fun ext=>TL.move hF rfl rfl TL.fin) ?_
     refine DR.stepV [_,_,_,_,_,_,_,_] rfl [(199,_,some 5),(200,_,some 6)] rfl rfl ⟨⟨rfl,rfl,rfl⟩,⟨rfl,rfl,rfl⟩,trivial⟩ (fun ext=>TL.indexAddr hF rfl rfl (rr_ad hlr hjl) (by omega) (by omega) rfl TL.fin) ?_
     refine DR.stepV [_,_,_,_,_,_,_,_,_] rfl [(201,_,some 7)] rfl rfl ⟨⟨rfl,rfl,rfl⟩,trivial⟩ (fun ext=>TL.fieldAddr hF rfl rfl TL.fin) ?_
     refine DR.stepV [_,_,_,_,_,_,_,_,_,_] rfl [(202,_,some 8)] rfl rfl ⟨⟨rfl,rfl,rfl⟩,trivial⟩ (fun ext=>TL.load hF rfl (rr_at (hlr.up (η':=[(b5,Obj.cells (wsC (cutT s 2)).toArray 23 (0,0))]::η) (by simp)) hjl 1 _ rfl) rfl TL.fin) ?_
     refine DR.stepV [_,_,_,_,_,_,_,_,_,_,_] rfl [(198,_,some 4),(203,_,some 9)] rfl rfl ⟨⟨rfl,rfl,rfl⟩,⟨rfl,rfl,rfl⟩,trivial⟩ (fun ext=>TL.bin hF rfl rfl rfl rfl TL.fin) ?_
     refine DR.stepV [_,_,_,_,_,_,_,_,_,_,_,_] rfl [(204,_,some 10)] rfl rfl ⟨⟨rfl,rfl,rfl⟩,trivial⟩ (fun ext=>TL.move hF rfl rfl TL.fin) ?_
     refine DR.stepV [_,_,_,_,_,_,_,_,_,_,_,_,_] rfl [(6,_,none),(205,_,some 11)] rfl rfl ⟨⟨rfl,by kernel_rfl⟩,⟨rfl,rfl,rfl⟩,trivial⟩ (fun ext=>TL.on rfl rfl rfl (by simp [hA]) <| TL.move hF rfl rfl TL.fin) ?_
     refine DR.stepV [_,_,_,_,_,_,_,_,_,_,_,_,_,_] rfl [(20,_,none),(205,_,some 11)] rfl rfl ⟨⟨rfl,by kernel_rfl⟩,⟨rfl,rfl,rfl⟩,trivial⟩ (fun ext=>TL.on rfl rfl rfl (by simp [hA]) <| TL.move hF rfl rfl TL.fin) ?_
     refine DR.stepV [_,_,_,_,_,_,_,_,_,_,_,_,_,_,_] rfl [(206,_,some 12),(207,_,some 13),(205,_,some 11)] rfl rfl ⟨⟨rfl,rfl,rfl⟩,⟨rfl,rfl,rfl⟩,⟨rfl,rfl,rfl⟩,trivial⟩ (fun ext=>TL.on rfl rfl rfl (by simp [hA]) <| TL.indexAddr hF rfl rfl (rr_ad hlr hjl) (by omega) (by omega) rfl TL.fin) ?_
     refine DR.stepV [_,_,_,_,_,_,_,_,_,_,_,_,_,_,_,_] rfl [(208,_,some 14),(205,_,some 11)] rfl rfl ⟨⟨rfl,rfl,rfl⟩,⟨rfl,rfl,rfl⟩,trivial⟩ (fun ext=>TL.on rfl rfl rfl (by simp [hA]) <| TL.fieldAddr hF rfl rfl TL.fin) ?_
     refine DR.stepV [_,_,_,_,_,_,_,_,_,_,_,_,_,_,_,_,_] rfl [(209,_,some 15),(205,_,some 11)] rfl rfl ⟨⟨rfl,rfl,rfl⟩,⟨rfl,rfl,rfl⟩,trivial⟩ (fun ext=>TL.on rfl rfl rfl (by simp [hA]) <| TL.load hF rfl (rr_at (hlr.up (η':=[(b5,Obj.cells (wsC (cutT s 2)).toArray 23 (0,0))]::η) (by simp)) hjl 0 _ rfl) rfl TL.fin) ?_
     refine DR.stepV [_,_,_,_,_,_,_,_,_,_,_,_,_,_,_,_,_,_] rfl [(7,_,none),(205,_,some 11)] rfl rfl ⟨⟨rfl,by kernel_rfl⟩,⟨rfl,rfl,rfl⟩,trivial⟩ (fun ext=>TL.on rfl rfl rfl (by simp [hA]) <| TL.move hF rfl rfl TL.fin) ?_
     refine DR.stepV [_,_,_,_,_,_,_,_,_,_,_,_,_,_,_,_,_,_,_] rfl [(22,_,none),(205,_,some 11)] rfl rfl ⟨⟨rfl,by kernel_rfl⟩,⟨rfl,rfl,rfl⟩,trivial⟩ (fun ext=>TL.on rfl rfl rfl (by simp [hA]) <| TL.move hF rfl rfl TL.fin) ?_
     refine DR.stepV [_,_,_,_,_,_,_,_,_,_,_,_,_,_,_,_,_,_,_,_] rfl [(211,_,some 17),(212,_,some 18),(205,_,some 11)] rfl rfl ⟨⟨rfl,rfl,rfl⟩,⟨rfl,rfl,rfl⟩,⟨rfl,rfl,rfl⟩,trivial⟩ (fun ext=>TL.on rfl rfl rfl (by simp [hA]) <| TL.indexAddr hF rfl rfl (or_ad h3 (i:=k) hkl) (by omega) (by omega) rfl TL.fin) ?_
     refine DR.stepV [_,_,_,_,_,_,_,_,_,_,_,_,_,_,_,_,_,_,_,_,_] rfl [(213,_,some 19),(205,_,some 11)] rfl rfl ⟨⟨rfl,rfl,rfl⟩,⟨rfl,rfl,rfl⟩,trivial⟩ (fun ext=>TL.on rfl rfl rfl (by simp [hA]) <| TL.fieldAddr hF rfl rfl TL.fin) ?_
     refine DR.stepV [_,_,_,_,_,_,_,_,_,_,_,_,_,_,_,_,_,_,_,_,_,_] rfl [(214,_,some 20),(205,_,some 11)] rfl rfl ⟨⟨rfl,rfl,rfl⟩,⟨rfl,rfl,rfl⟩,trivial⟩ (fun ext=>TL.on rfl rfl rfl (by simp [hA]) <| TL.load hF rfl (or_at (h3.up (η':=[(b5,Obj.cells (wsC (cutT s 2)).toArray 23 (0,0))]::η) (by simp)) (i:=k) hkl 0 _ rfl) rfl TL.fin) ?_
     refine DR.stepV [_,_,_,_,_,_,_,_,_,_,_,_,_,_,_,_,_,_,_,_,_,_,_] rfl [(210,_,some 16),(215,_,some 21),(205,_,some 11)] rfl rfl ⟨⟨rfl,rfl,rfl⟩,⟨rfl,rfl,rfl⟩,⟨rfl,rfl,rfl⟩,trivial⟩ (fun ext=>TL.on rfl rfl rfl (by simp [hA]) <| TL.bin hF rfl rfl rfl rfl TL.fin) ?_
     refine DR.stepV [_,_,_,_,_,_,_,_,_,_,_,_,_,_,_,_,_,_,_,_,_,_,_,_] rfl [(205,_,some 11),(216,_,some 22)] rfl rfl ⟨⟨rfl,rfl,rfl⟩,⟨rfl,rfl,rfl⟩,trivial⟩ (fun ext=>TL.pickT hF rfl (by simp [hA]) rfl rfl TL.fin) ?_
     refine DR.stepV [_,_,_,_,_,_,_,_,_,_,_,_,_,_,_,_,_,_,_,_,_,_,_,_,_] rfl [(217,_,some 23)] rfl rfl ⟨⟨rfl,rfl,rfl⟩,trivial⟩ (fun ext=>TL.move hF rfl rfl TL.fin) ?_
     refine DR.stepV [_,_,_,_,_,_,_,_,_,_,_,_,_,_,_,_,_,_,_,_,_,_,_,_,_,_] rfl [(6,_,none),(218,_,some 24)] rfl rfl ⟨⟨rfl,by kernel_rfl⟩,⟨rfl,rfl,rfl⟩,trivial⟩ (fun ext=>TL.off hF rfl rfl rfl (by simp; omega) rfl TL.fin) ?_
     refine DR.stepV [_,_,_,_,_,_,_,_,_,_,_,_,_,_,_,_,_,_,_,_,_,_,_,_,_,_,_] rfl [(20,_,none),(218,_,some 24)] rfl rfl ⟨⟨rfl,by kernel_rfl⟩,⟨rfl,rfl,rfl⟩,trivial⟩ (fun ext=>TL.off hF rfl rfl rfl (by simp; omega) rfl TL.fin) ?_
     refine DR.stepV [_,_,_,_,_,_,_,_,_,_,_,_,_,_,_,_,_,_,_,_,_,_,_,_,_,_,_,_] rfl [(219,_,some 25),(220,_,some 26),(218,_,some 24)] rfl rfl ⟨⟨rfl,rfl,rfl⟩,⟨rfl,rfl,rfl⟩,⟨rfl,rfl,rfl⟩,trivial⟩ (fun ext=>TL.off hF rfl rfl rfl (by simp; omega) rfl TL.fin) ?_
     refine DR.stepV [_,_,_,_,_,_,_,_,_,_,_,_,_,_,_,_,_,_,_,_,_,_,_,_,_,_,_,_,_] rfl [(221,_,some 27),(218,_,some 24)] rfl rfl ⟨⟨rfl,rfl,rfl⟩,⟨rfl,rfl,rfl⟩,trivial⟩ (fun ext=>TL.off hF rfl rfl rfl (by simp; omega) rfl TL.fin) ?_
     refine DR.stepV [_,_,_,_,_,_,_,_,_,_,_,_,_,_,_,_,_,_,_,_,_,_,_,_,_,_,_,_,_,_] rfl [(222,_,some 28),(218,_,some 24)] rfl rfl ⟨⟨rfl,rfl,rfl⟩,⟨rfl,rfl,rfl⟩,trivial⟩ (fun ext=>TL.off hF rfl rfl rfl (by simp; omega) rfl TL.fin) ?_
     refine DR.stepV [_,_,_,_,_,_,_,_,_,_,_,_,_,_,_,_,_,_,_,_,_,_,_,_,_,_,_,_,_,_,_] rfl [(7,_,none),(218,_,some 24)] rfl rfl ⟨⟨rfl,by kernel_rfl⟩,⟨rfl,rfl,rfl⟩,trivial⟩ (fun ext=>TL.off hF rfl rfl rfl (by simp; omega) rfl TL.fin) ?_
     refine DR.stepV [_,_,_,_,_,_,_,_,_,_,_,_,_,_,_,_,_,_,_,_,_,_,_,_,_,_,_,_,_,_,_,_] rfl [(22,_,none),(218,_,some 24)] rfl rfl ⟨⟨rfl,by kernel_rfl⟩,⟨rfl,rfl,rfl⟩,trivial⟩ (fun ext=>TL.off hF rfl rfl rfl (by simp; omega) rfl TL.fin) ?_
     refine DR.stepV [_,_,_,_,_,_,_,_,_,_,_,_,_,_,_,_,_,_,_,_,_,_,_,_,_,_,_,_,_,_,_,_,_] rfl [(224,_,some 30),(225,_,some 31),(218,_,some 24)] rfl rfl ⟨⟨rfl,rfl,rfl⟩,⟨rfl,rfl,rfl⟩,⟨rfl,rfl,rfl⟩,trivial⟩ (fun ext=>TL.off hF rfl rfl rfl (by simp; omega) rfl TL.fin) ?_
     refine DR.stepV [_,_,_,_,_,_,_,_,_,_,_,_,_,_,_,_,_,_,_,_,_,_,_,_,_,_,_,_,_,_,_,_,_,_] rfl [(226,_,some 32),(218,_,some 24)] rfl rfl ⟨⟨rfl,rfl,rfl⟩,⟨rfl,rfl,rfl⟩,trivial⟩ (fun ext=>TL.off hF rfl rfl rfl (by simp; omega) rfl TL.fin) ?_
     refine DR.stepV [_,_,_,_,_,_,_,_,_,_,_,_,_,_,_,_,_,_,_,_,_,_,_,_,_,_,_,_,_,_,_,_,_,_,_] rfl [(227,_,some 33),(218,_,some 24)] rfl rfl ⟨⟨rfl,rfl,rfl⟩,⟨rfl,rfl,rfl⟩,trivial⟩ (fun ext=>TL.off hF rfl rfl rfl (by simp; omega) rfl TL.fin) ?_
     refine DR.done [(228,_),(227,_),(226,_),(225,_),(224,_),(223,_),(222,_),(221,_),(220,_),(219,_),(218,_),(217,_),(216,_),(215,_),(214,_),(213,_),(212,_),(211,_),(210,_),(209,_),(208,_),(207,_),(206,_),(205,_),(204,_),(203,_),(202,_),(201,_),(200,_),(199,_),(198,_),(197,_),(196,_),(195,_),(194,_)] [_,_] mixed (by kernel_rfl) (by kernel_rfl) (by kernel_rfl) rfl rfl ?_
     refine TL.off hF rfl rfl rfl (by simp; omega) rfl ?_
     refine TL.pickF hF rfl (by simp; omega) rfl rfl ?_
     refine TL.nil ?_
     refine TQ.then_n ?_
     refine T.cond_f rfl rfl ?_
     refine T.skip ?_
     refine TQ.block_n ?_
     refine TQ.then_n ?_
     refine T.region ?_
     refine TL.move hF rfl rfl ?_
     refine TL.add hF rfl rfl (by first | omega | (dsimp only; omega)) (by first | omega | (dsimp only; omega)) rfl ?_
     refine TL.assign hF rfl rfl ?_
     refine TL.nil ?_
     have hin:¬ inX W[k] L[j]=true:=by rw [inX_iff]; exact fun h=>hB h.2.1
     rw [if_neg hin,Nat.add_zero] at hcs
     exact TQ.round (k+1) (by omega) (by omega) ⟨rfl,rfl,rfl,rfl,rfl,rfl,rfl,rfl,rfl,by rw [hcs]; rfl,rfl,trivial⟩ rfl
    ·refine T.draw ?_
     refine DR.stepV [_] rfl [(7,_,none)] rfl rfl ⟨⟨rfl,by kernel_rfl⟩,trivial⟩ (fun ext=>TL.move hF rfl rfl TL.fin) ?_
     refine DR.stepV [_,_] rfl [(22,_,none)] rfl rfl ⟨⟨rfl,by kernel_rfl⟩,trivial⟩ (fun ext=>TL.move hF rfl rfl TL.fin) ?_
     refine DR.stepV [_,_,_] rfl [(194,_,some 0),(195,_,some 1)] rfl rfl ⟨⟨rfl,rfl,rfl⟩,⟨rfl,rfl,rfl⟩,trivial⟩ (fun ext=>TL.indexAddr hF rfl rfl (or_ad h3 (i:=k) hkl) (by omega) (by omega) rfl TL.fin) ?_
     refine DR.stepV [_,_,_,_] rfl [(196,_,some 2)] rfl rfl ⟨⟨rfl,rfl,rfl⟩,trivial⟩ (fun ext=>TL.fieldAddr hF rfl rfl TL.fin) ?_
     refine DR.stepV [_,_,_,_,_] rfl [(197,_,some 3)] rfl rfl ⟨⟨rfl,rfl,rfl⟩,trivial⟩ (fun ext=>TL.load hF rfl (or_at (h3.up (η':=[(b5,Obj.cells (wsC (cutT s 2)).toArray 23 (0,0))]::η) (by simp)) (i:=k) hkl 2 _ rfl) rfl TL.fin) ?_
     refine DR.stepV [_,_,_,_,_,_] rfl [(6,_,none)] rfl rfl ⟨⟨rfl,by kernel_rfl⟩,trivial⟩ (fun ext=>TL.move hF rfl rfl TL.fin) ?_
     refine DR.stepV [_,_,_,_,_,_,_] rfl [(20,_,none)] rfl rfl ⟨⟨rfl,by kernel_rfl⟩,trivial⟩ (fun ext=>TL.move hF rfl rfl TL.fin) ?_
     refine DR.stepV [_,_,_,_,_,_,_,_] rfl [(199,_,some 5),(200,_,some 6)] rfl rfl ⟨⟨rfl,rfl,rfl⟩,⟨rfl,rfl,rfl⟩,trivial⟩ (fun ext=>TL.indexAddr hF rfl rfl (rr_ad hlr hjl) (by omega) (by omega) rfl TL.fin) ?_
     refine DR.stepV [_,_,_,_,_,_,_,_,_] rfl [(201,_,some 7)] rfl rfl ⟨⟨rfl,rfl,rfl⟩,trivial⟩ (fun ext=>TL.fieldAddr hF rfl rfl TL.fin) ?_
     refine DR.stepV [_,_,_,_,_,_,_,_,_,_] rfl [(202,_,some 8)] rfl rfl ⟨⟨rfl,rfl,rfl⟩,trivial⟩ (fun ext=>TL.load hF rfl (rr_at (hlr.up (η':=[(b5,Obj.cells (wsC (cutT s 2)).toArray 23 (0,0))]::η) (by simp)) hjl 1 _ rfl) rfl TL.fin) ?_
     refine DR.stepV [_,_,_,_,_,_,_,_,_,_,_] rfl [(198,_,some 4),(203,_,some 9)] rfl rfl ⟨⟨rfl,rfl,rfl⟩,⟨rfl,rfl,rfl⟩,trivial⟩ (fun ext=>TL.bin hF rfl rfl rfl rfl TL.fin) ?_
     refine DR.stepV [_,_,_,_,_,_,_,_,_,_,_,_] rfl [(204,_,some 10)] rfl rfl ⟨⟨rfl,rfl,rfl⟩,trivial⟩ (fun ext=>TL.move hF rfl rfl TL.fin) ?_
     refine DR.stepV [_,_,_,_,_,_,_,_,_,_,_,_,_] rfl [(6,_,none),(205,_,some 11)] rfl rfl ⟨⟨rfl,by kernel_rfl⟩,⟨rfl,rfl,rfl⟩,trivial⟩ (fun ext=>TL.on rfl rfl rfl (by simp [hA]) <| TL.move hF rfl rfl TL.fin) ?_
     refine DR.stepV [_,_,_,_,_,_,_,_,_,_,_,_,_,_] rfl [(20,_,none),(205,_,some 11)] rfl rfl ⟨⟨rfl,by kernel_rfl⟩,⟨rfl,rfl,rfl⟩,trivial⟩ (fun ext=>TL.on rfl rfl rfl (by simp [hA]) <| TL.move hF rfl rfl TL.fin) ?_
     refine DR.stepV [_,_,_,_,_,_,_,_,_,_,_,_,_,_,_] rfl [(206,_,some 12),(207,_,some 13),(205,_,some 11)] rfl rfl ⟨⟨rfl,rfl,rfl⟩,⟨rfl,rfl,rfl⟩,⟨rfl,rfl,rfl⟩,trivial⟩ (fun ext=>TL.on rfl rfl rfl (by simp [hA]) <| TL.indexAddr hF rfl rfl (rr_ad hlr hjl) (by omega) (by omega) rfl TL.fin) ?_
     refine DR.stepV [_,_,_,_,_,_,_,_,_,_,_,_,_,_,_,_] rfl [(208,_,some 14),(205,_,some 11)] rfl rfl ⟨⟨rfl,rfl,rfl⟩,⟨rfl,rfl,rfl⟩,trivial⟩ (fun ext=>TL.on rfl rfl rfl (by simp [hA]) <| TL.fieldAddr hF rfl rfl TL.fin) ?_
     refine DR.stepV [_,_,_,_,_,_,_,_,_,_,_,_,_,_,_,_,_] rfl [(209,_,some 15),(205,_,some 11)] rfl rfl ⟨⟨rfl,rfl,rfl⟩,⟨rfl,rfl,rfl⟩,trivial⟩ (fun ext=>TL.on rfl rfl rfl (by simp [hA]) <| TL.load hF rfl (rr_at (hlr.up (η':=[(b5,Obj.cells (wsC (cutT s 2)).toArray 23 (0,0))]::η) (by simp)) hjl 0 _ rfl) rfl TL.fin) ?_
     refine DR.stepV [_,_,_,_,_,_,_,_,_,_,_,_,_,_,_,_,_,_] rfl [(7,_,none),(205,_,some 11)] rfl rfl ⟨⟨rfl,by kernel_rfl⟩,⟨rfl,rfl,rfl⟩,trivial⟩ (fun ext=>TL.on rfl rfl rfl (by simp [hA]) <| TL.move hF rfl rfl TL.fin) ?_
     refine DR.stepV [_,_,_,_,_,_,_,_,_,_,_,_,_,_,_,_,_,_,_] rfl [(22,_,none),(205,_,some 11)] rfl rfl ⟨⟨rfl,by kernel_rfl⟩,⟨rfl,rfl,rfl⟩,trivial⟩ (fun ext=>TL.on rfl rfl rfl (by simp [hA]) <| TL.move hF rfl rfl TL.fin) ?_
     refine DR.stepV [_,_,_,_,_,_,_,_,_,_,_,_,_,_,_,_,_,_,_,_] rfl [(211,_,some 17),(212,_,some 18),(205,_,some 11)] rfl rfl ⟨⟨rfl,rfl,rfl⟩,⟨rfl,rfl,rfl⟩,⟨rfl,rfl,rfl⟩,trivial⟩ (fun ext=>TL.on rfl rfl rfl (by simp [hA]) <| TL.indexAddr hF rfl rfl (or_ad h3 (i:=k) hkl) (by omega) (by omega) rfl TL.fin) ?_
     refine DR.stepV [_,_,_,_,_,_,_,_,_,_,_,_,_,_,_,_,_,_,_,_,_] rfl [(213,_,some 19),(205,_,some 11)] rfl rfl ⟨⟨rfl,rfl,rfl⟩,⟨rfl,rfl,rfl⟩,trivial⟩ (fun ext=>TL.on rfl rfl rfl (by simp [hA]) <| TL.fieldAddr hF rfl rfl TL.fin) ?_
     refine DR.stepV [_,_,_,_,_,_,_,_,_,_,_,_,_,_,_,_,_,_,_,_,_,_] rfl [(214,_,some 20),(205,_,some 11)] rfl rfl ⟨⟨rfl,rfl,rfl⟩,⟨rfl,rfl,rfl⟩,trivial⟩ (fun ext=>TL.on rfl rfl rfl (by simp [hA]) <| TL.load hF rfl (or_at (h3.up (η':=[(b5,Obj.cells (wsC (cutT s 2)).toArray 23 (0,0))]::η) (by simp)) (i:=k) hkl 0 _ rfl) rfl TL.fin) ?_
     refine DR.stepV [_,_,_,_,_,_,_,_,_,_,_,_,_,_,_,_,_,_,_,_,_,_,_] rfl [(210,_,some 16),(215,_,some 21),(205,_,some 11)] rfl rfl ⟨⟨rfl,rfl,rfl⟩,⟨rfl,rfl,rfl⟩,⟨rfl,rfl,rfl⟩,trivial⟩ (fun ext=>TL.on rfl rfl rfl (by simp [hA]) <| TL.bin hF rfl rfl rfl rfl TL.fin) ?_
     refine DR.stepV [_,_,_,_,_,_,_,_,_,_,_,_,_,_,_,_,_,_,_,_,_,_,_,_] rfl [(205,_,some 11),(216,_,some 22)] rfl rfl ⟨⟨rfl,rfl,rfl⟩,⟨rfl,rfl,rfl⟩,trivial⟩ (fun ext=>TL.pickT hF rfl (by simp [hA]) rfl rfl TL.fin) ?_
     refine DR.stepV [_,_,_,_,_,_,_,_,_,_,_,_,_,_,_,_,_,_,_,_,_,_,_,_,_] rfl [(217,_,some 23)] rfl rfl ⟨⟨rfl,rfl,rfl⟩,trivial⟩ (fun ext=>TL.move hF rfl rfl TL.fin) ?_
     refine DR.stepV [_,_,_,_,_,_,_,_,_,_,_,_,_,_,_,_,_,_,_,_,_,_,_,_,_,_] rfl [(6,_,none),(218,_,some 24)] rfl rfl ⟨⟨rfl,by kernel_rfl⟩,⟨rfl,rfl,rfl⟩,trivial⟩ (fun ext=>TL.on rfl rfl rfl (by simp; omega) <| TL.move hF rfl rfl TL.fin) ?_
     refine DR.stepV [_,_,_,_,_,_,_,_,_,_,_,_,_,_,_,_,_,_,_,_,_,_,_,_,_,_,_] rfl [(20,_,none),(218,_,some 24)] rfl rfl ⟨⟨rfl,by kernel_rfl⟩,⟨rfl,rfl,rfl⟩,trivial⟩ (fun ext=>TL.on rfl rfl rfl (by simp; omega) <| TL.move hF rfl rfl TL.fin) ?_
     refine DR.stepV [_,_,_,_,_,_,_,_,_,_,_,_,_,_,_,_,_,_,_,_,_,_,_,_,_,_,_,_] rfl [(219,_,some 25),(220,_,some 26),(218,_,some 24)] rfl rfl ⟨⟨rfl,rfl,rfl⟩,⟨rfl,rfl,rfl⟩,⟨rfl,rfl,rfl⟩,trivial⟩ (fun ext=>TL.on rfl rfl rfl (by simp; omega) <| TL.indexAddr hF rfl rfl (rr_ad hlr hjl) (by omega) (by omega) rfl TL.fin) ?_
     refine DR.stepV [_,_,_,_,_,_,_,_,_,_,_,_,_,_,_,_,_,_,_,_,_,_,_,_,_,_,_,_,_] rfl [(221,_,some 27),(218,_,some 24)] rfl rfl ⟨⟨rfl,rfl,rfl⟩,⟨rfl,rfl,rfl⟩,trivial⟩ (fun ext=>TL.on rfl rfl rfl (by simp; omega) <| TL.fieldAddr hF rfl rfl TL.fin) ?_
     refine DR.stepV [_,_,_,_,_,_,_,_,_,_,_,_,_,_,_,_,_,_,_,_,_,_,_,_,_,_,_,_,_,_] rfl [(222,_,some 28),(218,_,some 24)] rfl rfl ⟨⟨rfl,rfl,rfl⟩,⟨rfl,rfl,rfl⟩,trivial⟩ (fun ext=>TL.on rfl rfl rfl (by simp; omega) <| TL.load hF rfl (rr_at (hlr.up (η':=[(b5,Obj.cells (wsC (cutT s 2)).toArray 23 (0,0))]::η) (by simp)) hjl 0 _ rfl) rfl TL.fin) ?_
     refine DR.stepV [_,_,_,_,_,_,_,_,_,_,_,_,_,_,_,_,_,_,_,_,_,_,_,_,_,_,_,_,_,_,_] rfl [(7,_,none),(218,_,some 24)] rfl rfl ⟨⟨rfl,by kernel_rfl⟩,⟨rfl,rfl,rfl⟩,trivial⟩ (fun ext=>TL.on rfl rfl rfl (by simp; omega) <| TL.move hF rfl rfl TL.fin) ?_
     refine DR.stepV [_,_,_,_,_,_,_,_,_,_,_,_,_,_,_,_,_,_,_,_,_,_,_,_,_,_,_,_,_,_,_,_] rfl [(22,_,none),(218,_,some 24)] rfl rfl ⟨⟨rfl,by kernel_rfl⟩,⟨rfl,rfl,rfl⟩,trivial⟩ (fun ext=>TL.on rfl rfl rfl (by simp; omega) <| TL.move hF rfl rfl TL.fin) ?_
     refine DR.stepV [_,_,_,_,_,_,_,_,_,_,_,_,_,_,_,_,_,_,_,_,_,_,_,_,_,_,_,_,_,_,_,_,_] rfl [(224,_,some 30),(225,_,some 31),(218,_,some 24)] rfl rfl ⟨⟨rfl,rfl,rfl⟩,⟨rfl,rfl,rfl⟩,⟨rfl,rfl,rfl⟩,trivial⟩ (fun ext=>TL.on rfl rfl rfl (by simp; omega) <| TL.indexAddr hF rfl rfl (or_ad h3 (i:=k) hkl) (by omega) (by omega) rfl TL.fin) ?_
     refine DR.stepV [_,_,_,_,_,_,_,_,_,_,_,_,_,_,_,_,_,_,_,_,_,_,_,_,_,_,_,_,_,_,_,_,_,_] rfl [(226,_,some 32),(218,_,some 24)] rfl rfl ⟨⟨rfl,rfl,rfl⟩,⟨rfl,rfl,rfl⟩,trivial⟩ (fun ext=>TL.on rfl rfl rfl (by simp; omega) <| TL.fieldAddr hF rfl rfl TL.fin) ?_
     refine DR.stepV [_,_,_,_,_,_,_,_,_,_,_,_,_,_,_,_,_,_,_,_,_,_,_,_,_,_,_,_,_,_,_,_,_,_,_] rfl [(227,_,some 33),(218,_,some 24)] rfl rfl ⟨⟨rfl,rfl,rfl⟩,⟨rfl,rfl,rfl⟩,trivial⟩ (fun ext=>TL.on rfl rfl rfl (by simp; omega) <| TL.load hF rfl (or_at (h3.up (η':=[(b5,Obj.cells (wsC (cutT s 2)).toArray 23 (0,0))]::η) (by simp)) (i:=k) hkl 1 _ rfl) rfl TL.fin) ?_
     refine DR.done [(228,_),(227,_),(226,_),(225,_),(224,_),(223,_),(222,_),(221,_),(220,_),(219,_),(218,_),(217,_),(216,_),(215,_),(214,_),(213,_),(212,_),(211,_),(210,_),(209,_),(208,_),(207,_),(206,_),(205,_),(204,_),(203,_),(202,_),(201,_),(200,_),(199,_),(198,_),(197,_),(196,_),(195,_),(194,_)] [_,_] mixed (by kernel_rfl) (by kernel_rfl) (by kernel_rfl) rfl rfl ?_
     refine TL.on rfl rfl rfl (by simp; omega) ?_
     refine TL.bin hF rfl rfl rfl rfl ?_
     refine TL.pickT hF rfl (by simp; omega) rfl rfl ?_
     refine TL.nil ?_
     refine TQ.then_n ?_
     refine T.cond_d rfl (fun ht230=>?_) (fun ht230=>?_)
     ·refine T.region ?_
      refine TL.move hF rfl rfl ?_
      refine TL.add hF rfl rfl (by first | omega | (dsimp only; omega)) (by first | omega | (dsimp only; omega)) rfl ?_
      refine TL.assign hF rfl rfl ?_
      refine TL.nil ?_
      refine TQ.block_n ?_
      refine TQ.then_n ?_
      refine T.region ?_
      refine TL.move hF rfl rfl ?_
      refine TL.add hF rfl rfl (by first | omega | (dsimp only; omega)) (by first | omega | (dsimp only; omega)) rfl ?_
      refine TL.assign hF rfl rfl ?_
      refine TL.nil ?_
      have hin:inX W[k] L[j]=true:=by rw [inX_iff]; exact ⟨hA,hB,ht230⟩
      rw [if_pos hin] at hcs
      exact TQ.round (k+1) (by omega) (by omega) ⟨rfl,rfl,rfl,rfl,rfl,rfl,rfl,rfl,rfl,by rw [hcs]; rfl,rfl,trivial⟩ rfl
     ·refine T.skip ?_
      refine TQ.block_n ?_
      refine TQ.then_n ?_
      refine T.region ?_
      refine TL.move hF rfl rfl ?_
      refine TL.add hF rfl rfl (by first | omega | (dsimp only; omega)) (by first | omega | (dsimp only; omega)) rfl ?_
      refine TL.assign hF rfl rfl ?_
      refine TL.nil ?_
      have hin:¬ inX W[k] L[j]=true:=by rw [inX_iff]; exact fun h=>ht230 h.2.2
      rw [if_neg hin,Nat.add_zero] at hcs
      exact TQ.round (k+1) (by omega) (by omega) ⟨rfl,rfl,rfl,rfl,rfl,rfl,rfl,rfl,rfl,by rw [hcs]; rfl,rfl,trivial⟩ rfl
   ·refine T.exit ?_
    refine TQ.then_x ?_
    refine TQ.then_x ?_
    refine TQ.block_x ?_
    refine TQ.then_n ?_
    refine T.seq ?_
    refine T.region ?_
    refine TL.move hF rfl rfl ?_
    refine TL.bin hF rfl rfl rfl rfl ?_
    refine TL.nil ?_
    refine TQ.then_n ?_
    refine T.cond_f rfl (by
     have hke:W.length≤k:=by have h:¬ (k:Int)<(W.length:Int):=ht191; omega
     have h1:=in_count hTm (List.getElem_mem hjl) (ht0 _ (List.getElem_mem hjl))
     rw [← hWe] at h1
     rw [List.take_of_length_le hke,h1]; rfl) ?_
    refine T.skip ?_
    refine TQ.block_n ?_
    refine TQ.then_n ?_
    refine T.region ?_
    refine TL.move hF rfl rfl ?_
    refine TL.add hF rfl rfl (by first | omega | (dsimp only; omega)) (by first | omega | (dsimp only; omega)) rfl ?_
    refine TL.assign hF rfl rfl ?_
    refine TL.nil ?_
    exact TQ.round (j+1) (by omega) (by omega) ⟨rfl,rfl,rfl,rfl,rfl,rfl,rfl,rfl,rfl,trivial⟩ rfl
  ·refine T.exit ?_
   refine TQ.then_x ?_
   refine TQ.then_x ?_
   refine TQ.block_x ?_
   refine TQ.then_n ?_
   refine T.seq ?_
   refine T.region ?_
   have hje:L.length≤j:=by have h:¬ (j:Int)<(L.length:Int):=ht170; omega
   have hc1:manyTo L W W.length=L.length:=by
    unfold manyTo; rw [List.take_length,hWe]; exact count_all hTm ht0 (by omega)
   have hc2:∀ f,foldTo f L W W.length=foldS f ((L.map (·.word)).take j):=fun f=>by
    unfold foldTo; rw [List.take_length,List.take_of_length_le (by rw [List.length_map]; exact hje),hWe]; exact fold_all hTm ht0 hws f
   refine TL.move hF rfl rfl ?_
   refine TL.move hF rfl rfl ?_
   refine TL.len hF rfl rfl ?_
   refine TL.bin hF rfl rfl rfl rfl ?_
   refine TL.move hF rfl rfl ?_
   refine TL.on rfl rfl rfl (by rw [hc1]; simp) ?_
   refine TL.move hF rfl rfl ?_
   refine TL.on rfl rfl rfl (by rw [hc1]; simp) ?_
   refine TL.move hF rfl rfl ?_
   refine TL.on rfl rfl rfl (by rw [hc1]; simp) ?_
   refine TL.bin hF rfl rfl rfl rfl ?_
   refine TL.pickT hF rfl (by rw [hc1]; simp) rfl rfl ?_
   refine TL.move hF rfl rfl ?_
   refine TL.on rfl rfl rfl (by rw [hc2]; simp) ?_
   refine TL.move hF rfl rfl ?_
   refine TL.on rfl rfl rfl (by rw [hc2]; simp) ?_
   refine TL.move hF rfl rfl ?_
   refine TL.on rfl rfl rfl (by rw [hc2]; simp) ?_
   refine TL.bin hF rfl rfl rfl rfl ?_
   refine TL.pickT hF rfl (by rw [hc2]; simp) rfl rfl ?_
   refine TL.move hF rfl rfl ?_
   refine TL.on rfl rfl rfl (by rw [hc2]; simp) ?_
   refine TL.call hF (windowed_law hT) rfl rfl ?_
   rintro _ _ rfl
   refine TL.pickT hF rfl (by rw [hc2]; simp) rfl rfl ?_
   refine TL.assign hF rfl rfl ?_
   refine TL.nil ?_
   refine TQ.then_n ?_
   refine T.ret ?_
   exact TQ.retsF [4] _ hb rfl rfl rfl (fun _=>rfl)
end Go.Proofs.YtbajelldegijkaaDoor
namespace Go.Proofs.YtbajelldegijkaaDoor
open Go.Sl Go.ChangeShapes Go.WideShapes Go.ChangeAt Go.RowKit
set_option maxRecDepth 100000 in
theorem windowCounts_lifted (os : Os) (started : os.Started) (H : Type) (enc : TypeId × Value → H) :
    ReturnsInHanded {} Tryd.checked os 9 .any (fun w args=>(Rows.windowCountsSpec.pre enc Tryd.prog Tryd.f9 [] false w args∧laidMetH Tryd.prog laidL w)∧sizedMet enc Tryd.prog Tryd.f9 (OpenSpec.ofChange Rows.windowCountsSpec) false w args)
      (Rows.windowCountsSpec.post enc Tryd.prog Tryd.f9 false true false false):=by
  refine returnsInHanded_of_change_and (C:=Tryd.checked) (X:=fun w _=>laidMetH Tryd.prog laidL w) (fun _ _ _ hh h=>h.of_heap hh) Tryd.own started (by kernel_rfl) Tryd.func9
    (ChangeSpec.witness_shaped (enc:=enc) (C:=Tryd.checked) (os:=os) (X:=fun w _=>laidMetH Tryd.prog laidL w) false (World.doorLaid Tryd.prog 2000 os) #[.agg #[.int .i64 0,.int .i64 0,.int .i64 0,.int .i64 0,.int .i64 0],.slice none 0 0] 8 rfl (World.shaped_of_RefB (by kernel_rfl) (by kernel_rfl)) (by kernel_rfl) (by kernel_rfl) (by kernel_rfl) (door_met os _)) ?_
  intro W base args ds gs before hval0 hW _ hwt hL _
  have hval':∀ (j:Nat) t v,Tryd.f9.params[j]?=some t→args[j]?=some v→Value.okWide Tryd.prog W .any base t v:=hval0
  have hW':=hW
  obtain ⟨p,q,hA0,hV,rfl,hfz,hnd⟩:=hW
  have hA:DataW.TrodAll enc Tryd.prog W 0 (fun _=>true) true [53,43] args.toList ds p:=hA0
  obtain ⟨v0,v1,d0,d1,p0,p1,rfl,rfl,rfl,h0,h1⟩:=trodAll_two hA
  obtain ⟨n0,rfl⟩:=five_open (hval' 0 53 v0 rfl rfl) h0
  obtain ⟨_,_,_,rfl⟩:=okWide_slice uIs (hval' 1 43 v1 rfl rfl)
  obtain ⟨_,h1⟩:=h1
  obtain ⟨a1,xs1,c1,e1,hx1,hl1,hc1,hb1⟩:=ints_arg h1
  rw [e1] at hW' ⊢
  refine (calls_true (WindowCounts_fn (tabs_of_laid hL) hx1 hl1)).mono fun e W' ⟨he,hw⟩=>⟨_,he,?_⟩
  exact law_post (f:=Tryd.f9) Tryd.laidOut rfl 4 rfl u4 hW' rfl (by decide +kernel) hw
theorem windowCounts_said:Rows.WindowCountsSaid :=
  OpenClaim.holds_of_wide 9 Tryd.f9 rfl rfl rfl rfl rfl rfl rfl ⟨rfl,rfl,rfl,rfl,rfl⟩ rfl rfl rfl rfl rfl (by kernel_rfl) Tryd.func9 (by kernel_rfl)
    (of_decide_eq_true (by kernel_rfl)) (by unfold Func.isWrapper; first | (rw [if_pos (by decide +kernel)]; kernel_rfl) | (rw [if_neg (by decide +kernel)]; exact ⟨rfl,rfl⟩))
    (fun os started H enc _=>windowCounts_lifted os started H enc)
theorem windowCounts_holds:Rows.WindowCountsCardSaid :=
  Claim7.holds_tied_plain_at .later [] [.funcs] true (true, "edd8e981fe4d3e724f26595c5f9106e083d3da54a7e7e8d858f79c443b2db2cc") true
    windowCounts_said (fun _ h=>by cases h) (by kernel_rfl) (fun _ h=>by cases h) windowCounts_row_tie rfl ⟨rfl,rfl⟩ (by kernel_rfl) rfl
    (fun f fn hf hfn=>by
      obtain rfl : f = 9 := Option.some.inj ((show Tryd.prog.funcNamed "deltaworks/deltaworkslaw25.WindowCounts" = some 9 by kernel_rfl).symm.trans hf) |>.symm
      obtain rfl:fn=Tryd.f9:=(Option.some.inj (Tryd.func9.symm.trans hfn)).symm
      exact ⟨by kernel_rfl,fun j t ht=>by
        have ht2:(#[53,43]:Array TypeId)[j]?=some t:=ht
        have hm:t∈([53,43]:List TypeId):=by simpa using Array.mem_of_getElem? ht2
        have hall:(([53,43]:List TypeId).all fun u=>!Tryd.prog.wantsStandIn u)=true:=by kernel_rfl
        exact (show Tryd.prog.wantsStandIn t=false by simpa using List.all_eq_true.1 hall t hm)⟩)
    (by kernel_rfl)
#print axioms windowCounts_holds
end Go.Proofs.YtbajelldegijkaaDoor
