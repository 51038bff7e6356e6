/- What is said of single streams. No condition. -/
import Derived.Test.YtbajelldegijkaaDoorVg
import Derived.Test.YtbajelldegijkaaDoorVb
import Derived.Test.YtbajelldegijkaaDoorVf
import Derived.Test.YtbajelldegijkaaDoorCards
import Derived.Test.YtbajelldegijkaaDoorTie
/- The law of single streams. -/
namespace Go.Proofs.YtbajelldegijkaaDoor
open Go.Sl
variable {S:Nat→Prop} {w0:World} {η:Heap}
def badW:List Wsp:=[⟨2,1,1,0,0⟩,⟨-1,1,1,0,0⟩,⟨0,0,0,0,0⟩,⟨0,1001,1,0,0⟩,⟨0,5,6,0,0⟩,⟨0,5,0,0,0⟩,⟨1,0,0,0,0⟩,⟨1,1001,0,0,0⟩,⟨0,1,1,-1,0⟩,⟨0,1,1,1001,0⟩,⟨0,1,1,0,4⟩,⟨0,1,1,0,-1⟩]
def wrongR:List Rw:=[⟨-1,0,0⟩,⟨1048577,0,0⟩,⟨0,-1,0⟩,⟨0,1000,0⟩,⟨0,0,2147483648⟩,⟨0,0,-2147483649⟩]
def zeroR (n:Nat):List Rw:=List.replicate n ⟨0,0,0⟩
theorem zeroR_len (n:Nat):(zeroR n).length=n:=List.length_replicate
theorem zeroR_cells:∀ n:Nat,(zeroR n).flatMap rwC=List.replicate (n*3) (.int .i64 0)
 | 0=>rfl
 | n+1=>by
  have e:zeroR (n+1)=⟨0,0,0⟩::zeroR n:=rfl
  rw [e,List.flatMap_cons,zeroR_cells n,show (n+1)*3=n*3+1+1+1 by omega,List.replicate_succ,List.replicate_succ,List.replicate_succ]; rfl
theorem wsC_len5 (s:Wsp):(wsC s).length=5:=rfl
theorem bad_no:∀ s∈badW,okS s=false:=by decide +kernel
theorem bad_windows {s:Wsp} (h:s∈badW):windowsS s (-1)=([],1):=by unfold windowsS; rw [if_neg (by rw [bad_no s h]; simp)]
theorem bad_asked {s:Wsp} (h:s∈badW) (l:List Rw):askedS s l=1:=by unfold askedS; rw [if_neg (by rw [bad_no s h]; simp)]
theorem bad_whole {s:Wsp} (h:s∈badW) (l:List Rw):wholeS s l=([],1):=by unfold wholeS; rw [bad_asked h,if_neg (by decide)]
theorem bad_play {s:Wsp} (h:s∈badW) (l:List Rw):playS s l=([],[],1):=by unfold playS; rw [bad_asked h,if_neg (by decide)]
theorem bad_check {s:Wsp} (h:s∈badW):checkS s=1:=by unfold checkS; rw [if_neg (by rw [bad_no s h]; simp)]
theorem wrong_whole:∀ r∈wrongR,wholeS slW [⟨1,1,1⟩,r]=([],2):=by decide +kernel
theorem wrong_play:∀ r∈wrongR,playS seW [r]=([],[],2):=by decide +kernel
theorem kn1:wholeS slW (zeroR 301)=([],3):=by decide +kernel
theorem kn2:playS seW (zeroR 301)=([],[],3):=by decide +kernel
theorem kn3:windowsS slW (-1)=([],2):=by decide +kernel
theorem kn4:windowsS slW 1048577=([],2):=by decide +kernel
theorem kn5:windowsS seW 5=([],4):=by decide +kernel
theorem kn6:windowsS seW (-5)=([],2):=by decide +kernel
theorem kn7:queueS 4 [2147483648]=([],1):=by decide +kernel
theorem kn8:queueS (-1) (List.replicate 301 0)=([],1):=by decide +kernel
theorem kn9:queueS 0 (List.replicate 300 0++[2147483648])=([],3):=by decide +kernel
theorem kn10:queueS 0 [2147483648]=([],2):=by decide +kernel
theorem kn11:queueS 0 [-2147483650]=([],2):=by decide +kernel
theorem kn12:wholeS seW []=([],0):=by decide +kernel
theorem kn13:playS slW []=([],[],0):=by decide +kernel
theorem kn14:windowsS slW 0=([(0,10)],0):=by decide +kernel
theorem kn15:wholeS seW [⟨10,5,0⟩,⟨0,5,0⟩,⟨4,5,0⟩,⟨7,5,0⟩]=([⟨0,4,5,1⟩,⟨4,14,5,3⟩],0):=by decide +kernel
theorem kn16:queueS 1 [2147483647,1,-2147483649]=([2147483647,-2147483648,1],0):=by decide +kernel
theorem kn17:windowsS ⟨0,1,1,0,0⟩ 1048576=([(1048576,1048577)],0):=by decide +kernel
/-- Whole, of rows in a block of one's own. -/
theorem Whole_own (hT : Tabs S w0) (s : Wsp) {seg : Seg} {a : Option Addr} {l : List Rw} {c : Nat} {e : Int} (hx : RRow S w0 [seg] a l) (hl : l.length < 9223372036854775808) (hc : l.length ≤ c) (hw : wholeS s l = ([], e)) :
  Rt Tryd.prog 16 [wsV s,.slice a l.length c].toArray S w0 (seg::η) (fun v η'=>∃ oa oc segs,v = .tuple #[.slice oa 0 oc,.int .i64 e]∧η'=segs++η) :=
 Rt.frame [seg] rfl fun S' w1 hz _=>(Whole_fn (hT.old hz) s (hx.frz hz) hl hc).mono fun v η' ⟨oa,oc,segs,h1,_,h3⟩=>by
  rw [hw] at h1
  exact ⟨oa,oc,seg::segs,h1,by rw [h3]; rfl⟩
theorem Play_own (hT : Tabs S w0) (s : Wsp) {seg : Seg} {a : Option Addr} {l : List Rw} {c : Nat} {e : Int} (hx : RRow S w0 [seg] a l) (hl : l.length < 9223372036854775808) (hw : playS s l = ([], [], e)) :
  Rt Tryd.prog 21 [wsV s,.slice a l.length c].toArray S w0 (seg::η) (fun v η'=>∃ la lc oa oc segs,v = .tuple #[.slice la 0 lc,.slice oa 0 oc,.int .i64 e]∧η'=segs++η) :=
 Rt.frame [seg] rfl fun S' w1 hz _=>(Play_fn (hT.old hz) s (hx.frz hz) hl).mono fun v η' ⟨la,lc,xs,oa,oc,segs,h1,h2,_,_,h3⟩=>by
  rw [hw] at h1 h2
  have hx0:xs=[]:=List.map_eq_nil_iff.1 h2
  subst hx0
  exact ⟨la,lc,oa,oc,seg::segs,h1,by rw [h3]; rfl⟩
theorem Queue_own (hT : Tabs S w0) {seg : Seg} {f e : Int} {a : Option Addr} {ops : List Int} {c : Nat} (hx : Row S w0 [seg] a (ints ops)) (hl : ops.length < 9223372036854775808) (hw : queueS f ops = ([], e)) :
  Rt Tryd.prog 23 [.int .i64 f,.slice a ops.length c].toArray S w0 (seg::η) (fun v η'=>∃ oa oc jo segs,v = .tuple #[.agg #[.slice oa 0 oc,.int .i64 jo],.int .i64 e]∧η'=segs++η) :=
 Rt.frame [seg] rfl fun S' w1 hz _=>(Queue_fn (hT.old hz) (hx.frz hz) hl).mono fun v η' ⟨oa,oc,jo,segs,h1,_,_,h3⟩=>by
  rw [hw] at h1
  exact ⟨oa,oc,jo,seg::segs,h1,by rw [h3]; rfl⟩
theorem zero_ints (n:Nat):ints (List.replicate n 0)=List.replicate n (.int .i64 0):=by unfold ints; rw [List.map_replicate]
theorem zero_ints1 (n:Nat) (x:Int):ints (List.replicate n 0++[x])=List.replicate n (.int .i64 0)++[.int .i64 x]:=by
 have h:=zero_ints n
 unfold ints at h ⊢
 rw [List.map_append,h]; rfl
theorem Queue_zero (hT : Tabs S w0) {f e : Int} {b n : Nat} (hn : n < 1000) (hw : queueS f (List.replicate n 0) = ([], e)) :
  Rt Tryd.prog 23 [.int .i64 f,.slice (some ⟨b,0,none⟩) n n].toArray S w0 ([(b,Obj.cells (List.replicate n (.int .i64 0)).toArray 3 (0,0))]::η) (fun v η'=>∃ oa oc jo segs,v = .tuple #[.agg #[.slice oa 0 oc,.int .i64 jo],.int .i64 e]∧η'=segs++η):=by
 have h:=Queue_own (η:=η) (c:=n) hT (seg:=[(b,Obj.cells (List.replicate n (.int .i64 0)).toArray 3 (0,0))]) (a:=some ⟨b,0,none⟩) (ops:=List.replicate n 0) (by rw [zero_ints]; exact row_own (cs:=List.replicate n (.int .i64 0)) (e:=3) (by simp)) (by rw [List.length_replicate]; omega) hw
 rw [List.length_replicate] at h
 exact h
theorem Queue_app (hT : Tabs S w0) {f e x : Int} {n c : Nat} {a : Option Addr} {seg : Seg} (hn : n < 1000) (hx : Row S w0 [seg] a (List.replicate n (.int .i64 0) ++ [.int .i64 x])) (hw : queueS f (List.replicate n 0 ++ [x]) = ([], e)) :
  Rt Tryd.prog 23 [.int .i64 f,.slice a (n+1) c].toArray S w0 (seg::η) (fun v η'=>∃ oa oc jo segs,v = .tuple #[.agg #[.slice oa 0 oc,.int .i64 jo],.int .i64 e]∧η'=segs++η):=by
 have hl:(List.replicate n (0:Int)++[x]).length=n+1:=by rw [List.length_append,List.length_replicate]; rfl
 have h:=Queue_own (η:=η) (c:=c) hT (seg:=seg) (a:=a) (ops:=List.replicate n 0++[x]) (by rw [zero_ints1]; exact hx) (by rw [hl]; omega) hw
 rw [hl] at h
 exact h
theorem zero_own {b n:Nat}:RRow S w0 [[(b,Obj.cells (List.replicate (n*3) (.int .i64 0)).toArray 57 (0,0))]] (some ⟨b,0,none⟩) (zeroR n):=by
 show Row _ _ _ _ ((zeroR n).flatMap rwC)
 rw [zeroR_cells]
 exact row_own (cs:=List.replicate (n*3) (.int .i64 0)) (e:=57) (by simp)
theorem Whole_zero (hT : Tabs S w0) (s : Wsp) {b n : Nat} {e : Int} (hn : n < 1000) (hw : wholeS s (zeroR n) = ([], e)) :
  Rt Tryd.prog 16 [wsV s,.slice (some ⟨b,0,none⟩) n n].toArray S w0 ([(b,Obj.cells (List.replicate (n*3) (.int .i64 0)).toArray 57 (0,0))]::η) (fun v η'=>∃ oa oc segs,v = .tuple #[.slice oa 0 oc,.int .i64 e]∧η'=segs++η):=by
 have h:=Whole_own (η:=η) (c:=n) hT s (zero_own (b:=b) (n:=n)) (by rw [zeroR_len]; omega) (by rw [zeroR_len]; omega) hw
 rw [zeroR_len] at h
 exact h
theorem Play_zero (hT : Tabs S w0) (s : Wsp) {b n : Nat} {e : Int} (hn : n < 1000) (hw : playS s (zeroR n) = ([], [], e)) :
  Rt Tryd.prog 21 [wsV s,.slice (some ⟨b,0,none⟩) n n].toArray S w0 ([(b,Obj.cells (List.replicate (n*3) (.int .i64 0)).toArray 57 (0,0))]::η) (fun v η'=>∃ la lc oa oc segs,v = .tuple #[.slice la 0 lc,.slice oa 0 oc,.int .i64 e]∧η'=segs++η):=by
 have h:=Play_own (η:=η) (c:=n) hT s (zero_own (b:=b) (n:=n)) (by rw [zeroR_len]; omega) hw
 rw [zeroR_len] at h
 exact h
set_option maxHeartbeats 16000000 in
theorem WindowKnown_fn (hT : Tabs S w0) :
  Rt Tryd.prog 11 [].toArray S w0 η (fun v _=>v = .bool true):=by
 have hF:=open_wide
 refine Rt.of (fn:=Tryd.f11) Tryd.func11 rfl rfl ?_
 refine T.seq ?_
 refine T.region ?_
 refine TL.assign hF rfl rfl ?_
 refine TL.nil ?_
 refine TQ.then_n ?_
 refine T.seq ?_
 refine T.region ?_
 have hb:=Back.refl S w0
 refine TL.build hF rfl (r:=wsV ⟨2,1,1,0,0⟩) (fun w=>by kernel_rfl) rfl ?_
 refine TL.build hF rfl (r:=wsV ⟨-1,1,1,0,0⟩) (fun w=>by kernel_rfl) rfl ?_
 refine TL.build hF rfl (r:=wsV ⟨0,0,0,0,0⟩) (fun w=>by kernel_rfl) rfl ?_
 refine TL.build hF rfl (r:=wsV ⟨0,1001,1,0,0⟩) (fun w=>by kernel_rfl) rfl ?_
 refine TL.build hF rfl (r:=wsV ⟨0,5,6,0,0⟩) (fun w=>by kernel_rfl) rfl ?_
 refine TL.build hF rfl (r:=wsV ⟨0,5,0,0,0⟩) (fun w=>by kernel_rfl) rfl ?_
 refine TL.build hF rfl (r:=wsV ⟨1,0,0,0,0⟩) (fun w=>by kernel_rfl) rfl ?_
 refine TL.build hF rfl (r:=wsV ⟨1,1001,0,0,0⟩) (fun w=>by kernel_rfl) rfl ?_
 refine TL.build hF rfl (r:=wsV ⟨0,1,1,-1,0⟩) (fun w=>by kernel_rfl) rfl ?_
 refine TL.build hF rfl (r:=wsV ⟨0,1,1,1001,0⟩) (fun w=>by kernel_rfl) rfl ?_
 refine TL.build hF rfl (r:=wsV ⟨0,1,1,0,4⟩) (fun w=>by kernel_rfl) rfl ?_
 refine TL.build hF rfl (r:=wsV ⟨0,1,1,0,-1⟩) (fun w=>by kernel_rfl) rfl ?_
 refine TL.buildSlice hF rfl (cs:=(badW.flatMap wsC).toArray) (e:=23) (fun w=>by kernel_rfl) rfl (fun b60=>?_)
 have hbd:Row S w0 [[(b60,Obj.cells (badW.flatMap wsC).toArray 23 (0,0))]] (some ⟨b60,0,none⟩) (badW.flatMap wsC):=row_own (e:=23) (by simp)
 refine TL.freeze ([[(b60,Obj.cells (badW.flatMap wsC).toArray 23 (0,0))]]) rfl (fun S1 w1 hz1=>?_)
 replace hb:=hb.frz hz1
 replace hT:=hT.old hz1
 replace hbd:=hbd.frz hz1
 refine TL.assign hF rfl rfl ?_
 refine TL.nil ?_
 refine TQ.then_n ?_
 refine T.seq ?_
 refine T.seq ?_
 refine T.region ?_
 refine TL.assign hF rfl rfl ?_
 refine TL.nil ?_
 refine TQ.then_n ?_
 refine T.block ?_
 refine T.loop (ι:=Nat) (fun i=>i≤12) (fun i=>[(0,.bool false),(1,.slice (some ⟨b60,0,none⟩) 12 12),(2,.int .i64 (i:Int))]) (fun _=>η) (fun i=>12 - i) 0 (Nat.zero_le _) ⟨rfl,rfl,rfl,trivial⟩ rfl ?_
 rintro i hi
 refine T.seq ?_
 refine T.seq ?_
 refine T.region ?_
 refine TL.move hF rfl rfl ?_
 refine TL.move hF rfl rfl ?_
 refine TL.len hF rfl rfl ?_
 refine TL.bin hF rfl rfl rfl rfl ?_
 refine TL.nil ?_
 refine TQ.then_n ?_
 first | refine T.cond_d rfl (fun ht64=>?_) (fun ht64=>?_) | refine T.cond _ rfl (fun ht64=>?_) (fun ht64=>?_)
 ·refine T.skip ?_
  refine TQ.then_n ?_
  refine T.seq ?_
  refine T.block ?_
  refine T.seq ?_
  refine T.region ?_
  have hib:i<badW.length:=by have h:(i:Int)<((12:Nat):Int):=ht64; show i<12; omega
  have hi12:i<12:=hib
  have hbm:badW[i]∈badW:=List.getElem_mem hib
  refine TL.move hF rfl rfl ?_
  refine TL.move hF rfl rfl ?_
  refine TL.indexAddr hF rfl rfl (hbd.tad (f:=wsC) wsC_len5 (by decide) hib) (by omega) (by omega) rfl ?_
  refine TL.loadA hF (wsC badW[i]) rfl rfl ((hbd.up (fun _ h=>absurd h List.not_mem_nil)).tabA (f:=wsC) wsC_len5 hib) rfl ?_
  refine TL.call hF (Windows_fn hT badW[i] (-1)) rfl rfl ?_
  rintro _ _ ⟨a1,c1,segs,rfl,_,rfl⟩
  rw [bad_windows hbm]
  refine TL.hsub η (List.sublist_append_right _ _) ?_
  refine TL.move hF rfl rfl ?_
  refine TL.extract hF rfl rfl rfl ?_
  refine TL.extract hF rfl rfl rfl ?_
  refine TL.assign hF rfl rfl ?_
  refine TL.assign hF rfl rfl ?_
  refine TL.nil ?_
  refine TQ.then_n ?_
  refine T.seq ?_
  refine T.drawH 10 mixed ?_
  refine DH.pure (i:=0) [(1,_,none)] rfl rfl rfl rfl ⟨⟨rfl,by kernel_rfl⟩,trivial⟩ (fun _ ext=>TL.move hF rfl rfl TL.fin) ?_
  refine DH.pure (i:=1) [(2,_,none)] rfl rfl rfl rfl ⟨⟨rfl,by kernel_rfl⟩,trivial⟩ (fun _ ext=>TL.move hF rfl rfl TL.fin) ?_
  refine DH.pure (i:=2) [(76,_,some 0),(77,_,some 1)] rfl rfl rfl rfl ⟨⟨rfl,rfl,rfl⟩,⟨rfl,rfl,rfl⟩,trivial⟩ (fun _ ext=>TL.indexAddr hF rfl rfl (hbd.tad (f:=wsC) wsC_len5 (by decide) hib) (by omega) (by omega) rfl TL.fin) ?_
  refine DH.read (i:=3) [(78,_,some 2)] rfl rfl rfl rfl ⟨⟨rfl,rfl,rfl⟩,trivial⟩ (fun ext=>TL.loadA hF (wsC badW[i]) rfl rfl ((hbd.up (fun _ h=>absurd h List.not_mem_nil)).tabA (f:=wsC) wsC_len5 hib) rfl TL.fin) ?_
  refine DH.k1 (by kernel_rfl) (by kernel_rfl) (by kernel_rfl) (by kernel_rfl) (HBK.mk (h:=4) [3] [] rfl rfl rfl trivial (by kernel_rfl) (fun ext=>?_))
  refine TL.makeSliceN hF (k:=301) rfl rfl (List.replicate (301*3) (.int .i64 0)) (zero_rows _) (by decide) (by decide) (by decide) (by decide) rfl (fun b80=>?_)
  refine TL.finK ⟨⟨_,rfl,_,_,[(78,_,some 2)],rfl,rfl,⟨⟨rfl,rfl,rfl⟩,trivial⟩,fun ext=>TL.loadA hF (wsC badW[i]) rfl rfl ((hbd.up (fun _ h=>absurd h List.not_mem_nil)).tabA (f:=wsC) wsC_len5 hib) rfl TL.fin⟩,trivial⟩ ?_
  refine DH.heavy 5 [(79,_,some 3),(80,_,some 4)] (by kernel_rfl) (by kernel_rfl) (by kernel_rfl) (by kernel_rfl) rfl rfl rfl rfl ⟨⟨rfl,rfl,rfl⟩,⟨rfl,rfl,rfl⟩,trivial⟩ (by kernel_rfl) (fun ext=>?_)
  refine TL.call hF (Whole_zero (b:=b80) hT badW[i] (by decide) (bad_whole hbm _)) rfl rfl ?_
  rintro _ _ ⟨a2,c2,segs2,rfl,rfl⟩
  refine TL.finD ?_
  refine DH.pure (i:=6) [(81,_,some 5)] rfl rfl rfl rfl ⟨⟨rfl,rfl,rfl⟩,trivial⟩ (fun _ ext=>TL.move hF rfl rfl TL.fin) ?_
  refine DH.pure (i:=7) [(75,_,some 6)] rfl rfl rfl rfl ⟨⟨rfl,rfl,rfl⟩,trivial⟩ (fun _ ext=>TL.extract hF rfl rfl rfl TL.fin) ?_
  refine DH.pure (i:=8) [(75,_,some 6)] rfl rfl rfl rfl ⟨⟨rfl,rfl,rfl⟩,trivial⟩ (fun _ ext=>TL.extract hF rfl rfl rfl TL.fin) ?_
  refine DH.pure (i:=9) [(82,_,some 7)] rfl rfl rfl rfl ⟨⟨rfl,rfl,rfl⟩,trivial⟩ (fun _ ext=>TL.assign hF rfl rfl TL.fin) ?_
  refine DH.done [(5,_),(83,_),(82,_),(75,_),(81,_),(80,_),(79,_),(78,_),(77,_),(76,_)] [_] (by kernel_rfl) (by kernel_rfl) (by kernel_rfl) (by kernel_rfl) rfl rfl ?_
  refine TL.assign hF rfl rfl ?_
  refine TL.nil ?_
  refine TQ.then_n ?_
  refine T.seq ?_
  refine T.hsub η (List.sublist_append_right _ _) ?_
  refine T.drawH 12 mixed ?_
  refine DH.pure (i:=0) [(1,_,none)] rfl rfl rfl rfl ⟨⟨rfl,by kernel_rfl⟩,trivial⟩ (fun _ ext=>TL.move hF rfl rfl TL.fin) ?_
  refine DH.pure (i:=1) [(2,_,none)] rfl rfl rfl rfl ⟨⟨rfl,by kernel_rfl⟩,trivial⟩ (fun _ ext=>TL.move hF rfl rfl TL.fin) ?_
  refine DH.pure (i:=2) [(85,_,some 0),(86,_,some 1)] rfl rfl rfl rfl ⟨⟨rfl,rfl,rfl⟩,⟨rfl,rfl,rfl⟩,trivial⟩ (fun _ ext=>TL.indexAddr hF rfl rfl (hbd.tad (f:=wsC) wsC_len5 (by decide) hib) (by omega) (by omega) rfl TL.fin) ?_
  refine DH.read (i:=3) [(87,_,some 2)] rfl rfl rfl rfl ⟨⟨rfl,rfl,rfl⟩,trivial⟩ (fun ext=>TL.loadA hF (wsC badW[i]) rfl rfl ((hbd.up (fun _ h=>absurd h List.not_mem_nil)).tabA (f:=wsC) wsC_len5 hib) rfl TL.fin) ?_
  refine DH.k1 (by kernel_rfl) (by kernel_rfl) (by kernel_rfl) (by kernel_rfl) (HBK.mk (h:=4) [3] [] rfl rfl rfl trivial (by kernel_rfl) (fun ext=>?_))
  refine TL.makeSliceN hF (k:=301) rfl rfl (List.replicate (301*3) (.int .i64 0)) (zero_rows _) (by decide) (by decide) (by decide) (by decide) rfl (fun b89=>?_)
  refine TL.finK ⟨⟨_,rfl,_,_,[(87,_,some 2)],rfl,rfl,⟨⟨rfl,rfl,rfl⟩,trivial⟩,fun ext=>TL.loadA hF (wsC badW[i]) rfl rfl ((hbd.up (fun _ h=>absurd h List.not_mem_nil)).tabA (f:=wsC) wsC_len5 hib) rfl TL.fin⟩,trivial⟩ ?_
  refine DH.heavy 5 [(88,_,some 3),(89,_,some 4)] (by kernel_rfl) (by kernel_rfl) (by kernel_rfl) (by kernel_rfl) rfl rfl rfl rfl ⟨⟨rfl,rfl,rfl⟩,⟨rfl,rfl,rfl⟩,trivial⟩ (by kernel_rfl) (fun ext=>?_)
  refine TL.call hF (Play_zero (b:=b89) hT badW[i] (by decide) (bad_play hbm _)) rfl rfl ?_
  rintro _ _ ⟨a3,c3,a4,c4,segs3,rfl,rfl⟩
  refine TL.finD ?_
  refine DH.pure (i:=6) [(90,_,some 5)] rfl rfl rfl rfl ⟨⟨rfl,rfl,rfl⟩,trivial⟩ (fun _ ext=>TL.move hF rfl rfl TL.fin) ?_
  refine DH.pure (i:=7) [(84,_,some 6)] rfl rfl rfl rfl ⟨⟨rfl,rfl,rfl⟩,trivial⟩ (fun _ ext=>TL.extract hF rfl rfl rfl TL.fin) ?_
  refine DH.pure (i:=8) [(84,_,some 6)] rfl rfl rfl rfl ⟨⟨rfl,rfl,rfl⟩,trivial⟩ (fun _ ext=>TL.extract hF rfl rfl rfl TL.fin) ?_
  refine DH.pure (i:=9) [(84,_,some 6)] rfl rfl rfl rfl ⟨⟨rfl,rfl,rfl⟩,trivial⟩ (fun _ ext=>TL.extract hF rfl rfl rfl TL.fin) ?_
  refine DH.pure (i:=10) [(91,_,some 7)] rfl rfl rfl rfl ⟨⟨rfl,rfl,rfl⟩,trivial⟩ (fun _ ext=>TL.assign hF rfl rfl TL.fin) ?_
  refine DH.pure (i:=11) [(92,_,some 8)] rfl rfl rfl rfl ⟨⟨rfl,rfl,rfl⟩,trivial⟩ (fun _ ext=>TL.assign hF rfl rfl TL.fin) ?_
  refine DH.done [(8,_),(7,_),(93,_),(92,_),(91,_),(84,_),(90,_),(89,_),(88,_),(87,_),(86,_),(85,_)] [_] (by kernel_rfl) (by kernel_rfl) (by kernel_rfl) (by kernel_rfl) rfl rfl ?_
  refine TL.assign hF rfl rfl ?_
  refine TL.nil ?_
  refine TQ.then_n ?_
  refine T.seq ?_
  refine T.region ?_
  refine TL.hsub η (List.sublist_append_right _ _) ?_
  refine TL.move hF rfl rfl ?_
  refine TL.move hF rfl rfl ?_
  refine TL.indexAddr hF rfl rfl (hbd.tad (f:=wsC) wsC_len5 (by decide) hib) (by omega) (by omega) rfl ?_
  refine TL.loadA hF (wsC badW[i]) rfl rfl ((hbd.up (fun _ h=>absurd h List.not_mem_nil)).tabA (f:=wsC) wsC_len5 hib) rfl ?_
  have hck:=Check_fn (η:=η) hT badW[i]
  rw [bad_check hbm] at hck
  refine TL.callV hF hck rfl rfl ?_
  refine TL.bin hF rfl rfl rfl rfl ?_
  refine TL.move hF rfl rfl ?_
  refine TL.on rfl rfl rfl (by decide) ?_
  refine TL.move hF rfl rfl ?_
  refine TL.on rfl rfl rfl (by decide) ?_
  refine TL.bin hF rfl rfl rfl rfl ?_
  refine TL.pickF hF rfl (by decide) rfl rfl ?_
  refine TL.move hF rfl rfl ?_
  refine TL.on rfl rfl rfl (by decide) ?_
  refine TL.move hF rfl rfl ?_
  refine TL.on rfl rfl rfl (by decide) ?_
  refine TL.bin hF rfl rfl rfl rfl ?_
  refine TL.pickF hF rfl (by decide) rfl rfl ?_
  refine TL.move hF rfl rfl ?_
  refine TL.on rfl rfl rfl (by decide) ?_
  refine TL.move hF rfl rfl ?_
  refine TL.on rfl rfl rfl (by decide) ?_
  refine TL.bin hF rfl rfl rfl rfl ?_
  refine TL.pickF hF rfl (by decide) rfl rfl ?_
  refine TL.nil ?_
  refine TQ.then_n ?_
  refine T.cond_f rfl (by decide) ?_
  refine T.skip ?_
  refine TQ.block_n ?_
  refine TQ.then_n ?_
  refine T.region ?_
  refine TL.move hF rfl rfl ?_
  refine TL.add hF rfl rfl (by first | omega | (dsimp only; omega)) (by first | omega | (dsimp only; omega)) rfl ?_
  refine TL.assign hF rfl rfl ?_
  refine TL.nil ?_
  exact TQ.round (i+1) (by omega) (by omega) ⟨rfl,rfl,rfl,trivial⟩ rfl
 ·refine T.exit ?_
  refine TQ.then_x ?_
  refine TQ.then_x ?_
  refine TQ.block_x ?_
  refine TQ.then_n ?_
  refine T.seq ?_
  refine T.region ?_
  refine TL.callV hF (row_fn (-1) (0) (0)) rfl rfl ?_
  refine TL.callV hF (row_fn (1048577) (0) (0)) rfl rfl ?_
  refine TL.callV hF (row_fn (0) (-1) (0)) rfl rfl ?_
  refine TL.callV hF (row_fn (0) (1000) (0)) rfl rfl ?_
  refine TL.callV hF (row_fn (0) (0) (2147483648)) rfl rfl ?_
  refine TL.callV hF (row_fn (0) (0) (-2147483649)) rfl rfl ?_
  refine TL.buildSlice hF rfl (cs:=(wrongR.flatMap rwC).toArray) (e:=57) (fun w=>by kernel_rfl) rfl (fun b118=>?_)
  have hwr:RRow S1 w1 [[(b118,Obj.cells (wrongR.flatMap rwC).toArray 57 (0,0))]] (some ⟨b118,0,none⟩) wrongR:=row_own (e:=57) (by simp)
  refine TL.freeze ([[(b118,Obj.cells (wrongR.flatMap rwC).toArray 57 (0,0))]]) rfl (fun S2 w2 hz2=>?_)
  replace hb:=hb.frz hz2
  replace hT:=hT.old hz2
  replace hbd:=hbd.old hz2
  replace hwr:=hwr.frz hz2
  refine TL.assign hF rfl rfl ?_
  refine TL.nil ?_
  refine TQ.then_n ?_
  refine T.seq ?_
  refine T.seq ?_
  refine T.region ?_
  refine TL.assign hF rfl rfl ?_
  refine TL.nil ?_
  refine TQ.then_n ?_
  refine T.block ?_
  refine T.loop (ι:=Nat) (fun i=>i≤6) (fun i=>[(0,.bool false),(10,.slice (some ⟨b118,0,none⟩) 6 6),(11,.int .i64 (i:Int))]) (fun _=>η) (fun i=>6 - i) 0 (Nat.zero_le _) ⟨rfl,rfl,rfl,trivial⟩ rfl ?_
  rintro j hj
  refine T.seq ?_
  refine T.seq ?_
  refine T.region ?_
  refine TL.move hF rfl rfl ?_
  refine TL.move hF rfl rfl ?_
  refine TL.len hF rfl rfl ?_
  refine TL.bin hF rfl rfl rfl rfl ?_
  refine TL.nil ?_
  refine TQ.then_n ?_
  first | refine T.cond_d rfl (fun ht122=>?_) (fun ht122=>?_) | refine T.cond _ rfl (fun ht122=>?_) (fun ht122=>?_)
  ·refine T.skip ?_
   refine TQ.then_n ?_
   refine T.seq ?_
   refine T.block ?_
   refine T.seq ?_
   have hjw:j<wrongR.length:=by have h:(j:Int)<((6:Nat):Int):=ht122; show j<6; omega
   have hj6:j<6:=hjw
   have hwm:wrongR[j]∈wrongR:=List.getElem_mem hjw
   refine T.drawH 12 mixed ?_
   refine DH.pure (i:=0) [] rfl rfl rfl rfl trivial (fun _ ext=>TL.callV hF (slides_fn) rfl rfl TL.fin) ?_
   refine DH.pure (i:=1) [] rfl rfl rfl rfl trivial (fun _ ext=>TL.callV hF (row_fn 1 1 1) rfl rfl TL.fin) ?_
   refine DH.pure (i:=2) [(10,_,none)] rfl rfl rfl rfl ⟨⟨rfl,by kernel_rfl⟩,trivial⟩ (fun _ ext=>TL.move hF rfl rfl TL.fin) ?_
   refine DH.pure (i:=3) [(11,_,none)] rfl rfl rfl rfl ⟨⟨rfl,by kernel_rfl⟩,trivial⟩ (fun _ ext=>TL.move hF rfl rfl TL.fin) ?_
   refine DH.pure (i:=4) [(128,_,some 2),(129,_,some 3)] rfl rfl rfl rfl ⟨⟨rfl,rfl,rfl⟩,⟨rfl,rfl,rfl⟩,trivial⟩ (fun _ ext=>TL.indexAddr hF rfl rfl (rr_ad hwr hjw) (by omega) (by omega) rfl TL.fin) ?_
   refine DH.read (i:=5) [(130,_,some 4)] rfl rfl rfl rfl ⟨⟨rfl,rfl,rfl⟩,trivial⟩ (fun ext=>TL.loadA hF (rwC wrongR[j]) rfl rfl (rr_at (hwr.up (by simp)) hjw) rfl TL.fin) ?_
   refine DH.heavy 6 [(127,_,some 1),(131,_,some 5)] (by kernel_rfl) (by kernel_rfl) (by kernel_rfl) (by kernel_rfl) rfl rfl rfl rfl ⟨⟨rfl,rfl,rfl⟩,⟨rfl,rfl,rfl⟩,trivial⟩ (by kernel_rfl) (fun ext=>?_)
   refine TL.buildSlice hF rfl (cs:=(([⟨1,1,1⟩,wrongR[j]]:List Rw).flatMap rwC).toArray) (e:=57) (fun w=>by kernel_rfl) rfl (fun b132=>?_)
   refine TL.finD ?_
   refine DH.heavy 7 [(126,_,some 0),(132,_,some 6)] (by kernel_rfl) (by kernel_rfl) (by kernel_rfl) (by kernel_rfl) rfl rfl rfl rfl ⟨⟨rfl,rfl,rfl⟩,⟨rfl,rfl,rfl⟩,trivial⟩ (by kernel_rfl) (fun ext=>?_)
   refine TL.call hF (Whole_own (l:=[⟨1,1,1⟩,wrongR[j]]) (c:=2) hT slW (row_own (cs:=([⟨1,1,1⟩,wrongR[j]]:List Rw).flatMap rwC) (e:=57) (b:=b132) (by simp)) (by simp) (by simp) (wrong_whole _ hwm)) rfl rfl ?_
   rintro _ _ ⟨a2,c2,segs2,rfl,rfl⟩
   refine TL.finD ?_
   refine DH.pure (i:=8) [(133,_,some 7)] rfl rfl rfl rfl ⟨⟨rfl,rfl,rfl⟩,trivial⟩ (fun _ ext=>TL.move hF rfl rfl TL.fin) ?_
   refine DH.pure (i:=9) [(125,_,some 8)] rfl rfl rfl rfl ⟨⟨rfl,rfl,rfl⟩,trivial⟩ (fun _ ext=>TL.extract hF rfl rfl rfl TL.fin) ?_
   refine DH.pure (i:=10) [(125,_,some 8)] rfl rfl rfl rfl ⟨⟨rfl,rfl,rfl⟩,trivial⟩ (fun _ ext=>TL.extract hF rfl rfl rfl TL.fin) ?_
   refine DH.pure (i:=11) [(134,_,some 9)] rfl rfl rfl rfl ⟨⟨rfl,rfl,rfl⟩,trivial⟩ (fun _ ext=>TL.assign hF rfl rfl TL.fin) ?_
   refine DH.done [(12,_),(135,_),(134,_),(125,_),(133,_),(132,_),(131,_),(130,_),(129,_),(128,_),(127,_),(126,_)] [_] (by kernel_rfl) (by kernel_rfl) (by kernel_rfl) (by kernel_rfl) rfl rfl ?_
   refine TL.assign hF rfl rfl ?_
   refine TL.nil ?_
   refine TQ.then_n ?_
   refine T.seq ?_
   refine T.hsub η (List.sublist_append_right _ _) ?_
   refine T.drawH 13 mixed ?_
   refine DH.pure (i:=0) [] rfl rfl rfl rfl trivial (fun _ ext=>TL.callV hF (sessions_fn) rfl rfl TL.fin) ?_
   refine DH.pure (i:=1) [(10,_,none)] rfl rfl rfl rfl ⟨⟨rfl,by kernel_rfl⟩,trivial⟩ (fun _ ext=>TL.move hF rfl rfl TL.fin) ?_
   refine DH.pure (i:=2) [(11,_,none)] rfl rfl rfl rfl ⟨⟨rfl,by kernel_rfl⟩,trivial⟩ (fun _ ext=>TL.move hF rfl rfl TL.fin) ?_
   refine DH.pure (i:=3) [(138,_,some 1),(139,_,some 2)] rfl rfl rfl rfl ⟨⟨rfl,rfl,rfl⟩,⟨rfl,rfl,rfl⟩,trivial⟩ (fun _ ext=>TL.indexAddr hF rfl rfl (rr_ad hwr hjw) (by omega) (by omega) rfl TL.fin) ?_
   refine DH.read (i:=4) [(140,_,some 3)] rfl rfl rfl rfl ⟨⟨rfl,rfl,rfl⟩,trivial⟩ (fun ext=>TL.loadA hF (rwC wrongR[j]) rfl rfl (rr_at (hwr.up (by simp)) hjw) rfl TL.fin) ?_
   refine DH.heavy 5 [(141,_,some 4)] (by kernel_rfl) (by kernel_rfl) (by kernel_rfl) (by kernel_rfl) rfl rfl rfl rfl ⟨⟨rfl,rfl,rfl⟩,trivial⟩ (by kernel_rfl) (fun ext=>?_)
   refine TL.buildSlice hF rfl (cs:=(([wrongR[j]]:List Rw).flatMap rwC).toArray) (e:=57) (fun w=>by kernel_rfl) rfl (fun b142=>?_)
   refine TL.finD ?_
   refine DH.heavy 6 [(137,_,some 0),(142,_,some 5)] (by kernel_rfl) (by kernel_rfl) (by kernel_rfl) (by kernel_rfl) rfl rfl rfl rfl ⟨⟨rfl,rfl,rfl⟩,⟨rfl,rfl,rfl⟩,trivial⟩ (by kernel_rfl) (fun ext=>?_)
   refine TL.call hF (Play_own (l:=[wrongR[j]]) (c:=1) hT seW (row_own (cs:=([wrongR[j]]:List Rw).flatMap rwC) (e:=57) (b:=b142) (by simp)) (by simp) (wrong_play _ hwm)) rfl rfl ?_
   rintro _ _ ⟨a3,c3,a4,c4,segs3,rfl,rfl⟩
   refine TL.finD ?_
   refine DH.pure (i:=7) [(143,_,some 6)] rfl rfl rfl rfl ⟨⟨rfl,rfl,rfl⟩,trivial⟩ (fun _ ext=>TL.move hF rfl rfl TL.fin) ?_
   refine DH.pure (i:=8) [(136,_,some 7)] rfl rfl rfl rfl ⟨⟨rfl,rfl,rfl⟩,trivial⟩ (fun _ ext=>TL.extract hF rfl rfl rfl TL.fin) ?_
   refine DH.pure (i:=9) [(136,_,some 7)] rfl rfl rfl rfl ⟨⟨rfl,rfl,rfl⟩,trivial⟩ (fun _ ext=>TL.extract hF rfl rfl rfl TL.fin) ?_
   refine DH.pure (i:=10) [(136,_,some 7)] rfl rfl rfl rfl ⟨⟨rfl,rfl,rfl⟩,trivial⟩ (fun _ ext=>TL.extract hF rfl rfl rfl TL.fin) ?_
   refine DH.pure (i:=11) [(144,_,some 8)] rfl rfl rfl rfl ⟨⟨rfl,rfl,rfl⟩,trivial⟩ (fun _ ext=>TL.assign hF rfl rfl TL.fin) ?_
   refine DH.pure (i:=12) [(145,_,some 9)] rfl rfl rfl rfl ⟨⟨rfl,rfl,rfl⟩,trivial⟩ (fun _ ext=>TL.assign hF rfl rfl TL.fin) ?_
   refine DH.done [(15,_),(14,_),(146,_),(145,_),(144,_),(136,_),(143,_),(142,_),(141,_),(140,_),(139,_),(138,_),(137,_)] [_] (by kernel_rfl) (by kernel_rfl) (by kernel_rfl) (by kernel_rfl) rfl rfl ?_
   refine TL.assign hF rfl rfl ?_
   refine TL.nil ?_
   refine TQ.then_n ?_
   refine T.seq ?_
   refine T.region ?_
   refine TL.hsub η (List.sublist_append_right _ _) ?_
   refine TL.move hF rfl rfl ?_
   refine TL.bin hF rfl rfl rfl rfl ?_
   refine TL.move hF rfl rfl ?_
   refine TL.on rfl rfl rfl (by decide) ?_
   refine TL.move hF rfl rfl ?_
   refine TL.on rfl rfl rfl (by decide) ?_
   refine TL.bin hF rfl rfl rfl rfl ?_
   refine TL.pickF hF rfl (by decide) rfl rfl ?_
   refine TL.nil ?_
   refine TQ.then_n ?_
   refine T.cond_f rfl (by decide) ?_
   refine T.skip ?_
   refine TQ.block_n ?_
   refine TQ.then_n ?_
   refine T.region ?_
   refine TL.move hF rfl rfl ?_
   refine TL.add hF rfl rfl (by first | omega | (dsimp only; omega)) (by first | omega | (dsimp only; omega)) rfl ?_
   refine TL.assign hF rfl rfl ?_
   refine TL.nil ?_
   exact TQ.round (j+1) (by omega) (by omega) ⟨rfl,rfl,rfl,trivial⟩ rfl
  ·refine T.exit ?_
   refine TQ.then_x ?_
   refine TQ.then_x ?_
   refine TQ.block_x ?_
   refine TQ.then_n ?_
   refine T.seq ?_
   refine T.drawH 7 mixed ?_
   refine DH.pure (i:=0) [] rfl rfl rfl rfl trivial (fun _ ext=>TL.callV hF (slides_fn) rfl rfl TL.fin) ?_
   refine DH.heavy 1 [] (by kernel_rfl) (by kernel_rfl) (by kernel_rfl) (by kernel_rfl) rfl rfl rfl rfl trivial (by kernel_rfl) (fun ext=>?_)
   refine TL.makeSliceN hF (k:=301) rfl rfl (List.replicate (301*3) (.int .i64 0)) (zero_rows _) (by decide) (by decide) (by decide) (by decide) rfl (fun b155=>?_)
   refine TL.finD ?_
   refine DH.heavy 2 [(154,_,some 0),(155,_,some 1)] (by kernel_rfl) (by kernel_rfl) (by kernel_rfl) (by kernel_rfl) rfl rfl rfl rfl ⟨⟨rfl,rfl,rfl⟩,⟨rfl,rfl,rfl⟩,trivial⟩ (by kernel_rfl) (fun ext=>?_)
   refine TL.call hF (Whole_zero (b:=b155) hT slW (by decide) kn1) rfl rfl ?_
   rintro _ _ ⟨a5,c5,segs5,rfl,rfl⟩
   refine TL.finD ?_
   refine DH.pure (i:=3) [(156,_,some 2)] rfl rfl rfl rfl ⟨⟨rfl,rfl,rfl⟩,trivial⟩ (fun _ ext=>TL.move hF rfl rfl TL.fin) ?_
   refine DH.pure (i:=4) [(153,_,some 3)] rfl rfl rfl rfl ⟨⟨rfl,rfl,rfl⟩,trivial⟩ (fun _ ext=>TL.extract hF rfl rfl rfl TL.fin) ?_
   refine DH.pure (i:=5) [(153,_,some 3)] rfl rfl rfl rfl ⟨⟨rfl,rfl,rfl⟩,trivial⟩ (fun _ ext=>TL.extract hF rfl rfl rfl TL.fin) ?_
   refine DH.pure (i:=6) [(157,_,some 4)] rfl rfl rfl rfl ⟨⟨rfl,rfl,rfl⟩,trivial⟩ (fun _ ext=>TL.assign hF rfl rfl TL.fin) ?_
   refine DH.done [(17,_),(158,_),(157,_),(153,_),(156,_),(155,_),(154,_)] [_] (by kernel_rfl) (by kernel_rfl) (by kernel_rfl) (by kernel_rfl) rfl rfl ?_
   refine TL.assign hF rfl rfl ?_
   refine TL.nil ?_
   refine TQ.then_n ?_
   refine T.seq ?_
   refine T.hsub η (List.sublist_append_right _ _) ?_
   refine T.drawH 9 mixed ?_
   refine DH.pure (i:=0) [] rfl rfl rfl rfl trivial (fun _ ext=>TL.callV hF (sessions_fn) rfl rfl TL.fin) ?_
   refine DH.heavy 1 [] (by kernel_rfl) (by kernel_rfl) (by kernel_rfl) (by kernel_rfl) rfl rfl rfl rfl trivial (by kernel_rfl) (fun ext=>?_)
   refine TL.makeSliceN hF (k:=301) rfl rfl (List.replicate (301*3) (.int .i64 0)) (zero_rows _) (by decide) (by decide) (by decide) (by decide) rfl (fun b161=>?_)
   refine TL.finD ?_
   refine DH.heavy 2 [(160,_,some 0),(161,_,some 1)] (by kernel_rfl) (by kernel_rfl) (by kernel_rfl) (by kernel_rfl) rfl rfl rfl rfl ⟨⟨rfl,rfl,rfl⟩,⟨rfl,rfl,rfl⟩,trivial⟩ (by kernel_rfl) (fun ext=>?_)
   refine TL.call hF (Play_zero (b:=b161) hT seW (by decide) kn2) rfl rfl ?_
   rintro _ _ ⟨a6,c6,a7,c7,segs6,rfl,rfl⟩
   refine TL.finD ?_
   refine DH.pure (i:=3) [(162,_,some 2)] rfl rfl rfl rfl ⟨⟨rfl,rfl,rfl⟩,trivial⟩ (fun _ ext=>TL.move hF rfl rfl TL.fin) ?_
   refine DH.pure (i:=4) [(159,_,some 3)] rfl rfl rfl rfl ⟨⟨rfl,rfl,rfl⟩,trivial⟩ (fun _ ext=>TL.extract hF rfl rfl rfl TL.fin) ?_
   refine DH.pure (i:=5) [(159,_,some 3)] rfl rfl rfl rfl ⟨⟨rfl,rfl,rfl⟩,trivial⟩ (fun _ ext=>TL.extract hF rfl rfl rfl TL.fin) ?_
   refine DH.pure (i:=6) [(159,_,some 3)] rfl rfl rfl rfl ⟨⟨rfl,rfl,rfl⟩,trivial⟩ (fun _ ext=>TL.extract hF rfl rfl rfl TL.fin) ?_
   refine DH.pure (i:=7) [(163,_,some 4)] rfl rfl rfl rfl ⟨⟨rfl,rfl,rfl⟩,trivial⟩ (fun _ ext=>TL.assign hF rfl rfl TL.fin) ?_
   refine DH.pure (i:=8) [(164,_,some 5)] rfl rfl rfl rfl ⟨⟨rfl,rfl,rfl⟩,trivial⟩ (fun _ ext=>TL.assign hF rfl rfl TL.fin) ?_
   refine DH.done [(20,_),(19,_),(165,_),(164,_),(163,_),(159,_),(162,_),(161,_),(160,_)] [_] (by kernel_rfl) (by kernel_rfl) (by kernel_rfl) (by kernel_rfl) rfl rfl ?_
   refine TL.assign hF rfl rfl ?_
   refine TL.nil ?_
   refine TQ.then_n ?_
   refine T.seq ?_
   refine T.region ?_
   refine TL.hsub η (List.sublist_append_right _ _) ?_
   refine TL.callV hF slides_fn rfl rfl ?_
   refine TL.call hF (Windows_fn hT slW (-1)) rfl rfl ?_
   rintro _ _ ⟨a20,c20,segs20,rfl,_,rfl⟩
   rw [kn3]
   refine TL.move hF rfl rfl ?_
   refine TL.extract hF rfl rfl rfl ?_
   refine TL.extract hF rfl rfl rfl ?_
   refine TL.assign hF rfl rfl ?_
   refine TL.assign hF rfl rfl ?_
   refine TL.nil ?_
   refine TQ.then_n ?_
   refine T.seq ?_
   refine T.region ?_
   refine TL.hsub η (List.sublist_append_right _ _) ?_
   refine TL.callV hF slides_fn rfl rfl ?_
   refine TL.call hF (Windows_fn hT slW 1048577) rfl rfl ?_
   rintro _ _ ⟨a21,c21,segs21,rfl,_,rfl⟩
   rw [kn4]
   refine TL.move hF rfl rfl ?_
   refine TL.extract hF rfl rfl rfl ?_
   refine TL.extract hF rfl rfl rfl ?_
   refine TL.assign hF rfl rfl ?_
   refine TL.assign hF rfl rfl ?_
   refine TL.nil ?_
   refine TQ.then_n ?_
   refine T.seq ?_
   refine T.region ?_
   refine TL.hsub η (List.sublist_append_right _ _) ?_
   refine TL.callV hF sessions_fn rfl rfl ?_
   refine TL.call hF (Windows_fn hT seW 5) rfl rfl ?_
   rintro _ _ ⟨a22,c22,segs22,rfl,_,rfl⟩
   rw [kn5]
   refine TL.move hF rfl rfl ?_
   refine TL.extract hF rfl rfl rfl ?_
   refine TL.extract hF rfl rfl rfl ?_
   refine TL.assign hF rfl rfl ?_
   refine TL.assign hF rfl rfl ?_
   refine TL.nil ?_
   refine TQ.then_n ?_
   refine T.seq ?_
   refine T.region ?_
   refine TL.hsub η (List.sublist_append_right _ _) ?_
   refine TL.callV hF sessions_fn rfl rfl ?_
   refine TL.call hF (Windows_fn hT seW (-5)) rfl rfl ?_
   rintro _ _ ⟨a23,c23,segs23,rfl,_,rfl⟩
   rw [kn6]
   refine TL.move hF rfl rfl ?_
   refine TL.extract hF rfl rfl rfl ?_
   refine TL.extract hF rfl rfl rfl ?_
   refine TL.assign hF rfl rfl ?_
   refine TL.assign hF rfl rfl ?_
   refine TL.nil ?_
   refine TQ.then_n ?_
   refine T.seq ?_
   refine T.region ?_
   refine TL.hsub η (List.sublist_append_right _ _) ?_
   refine TL.buildSlice hF rfl (cs:=#[.int .i64 2147483648]) (e:=3) (fun w=>by kernel_rfl) rfl (fun b187=>?_)
   refine TL.call hF (Queue_own (f:=4) (ops:=[2147483648]) (c:=1) hT (row_own (cs:=ints [2147483648]) (e:=3) (b:=b187) (by simp [ints])) (by decide) kn7) rfl rfl ?_
   rintro _ _ ⟨a24,c24,jo24,segs24,rfl,rfl⟩
   refine TL.move hF rfl rfl ?_
   refine TL.extract hF rfl rfl rfl ?_
   refine TL.extract hF rfl rfl rfl ?_
   refine TL.alloc hF rfl (fun b30=>?_)
   refine TL.storeAs hF [.slice a24 0 c24,.int .i64 jo24] [.slice a24 0 c24,.int .i64 jo24] 0 (cs:=[.slice none 0 0,.int .i64 0]) rfl rfl rfl rfl (by simp [Value.oneCell']) (Nat.le_refl 2) rfl ?_
   refine TL.hsub η (List.Sublist.cons _ (List.sublist_append_right _ _)) ?_
   refine TL.assign hF rfl rfl ?_
   refine TL.nil ?_
   refine TQ.then_n ?_
   refine T.seq ?_
   refine T.region ?_
   refine TL.makeSlice hF (k:=301) rfl rfl rfl (by decide) (by decide) rfl (fun b192=>?_)
   refine TL.call hF (Queue_zero (f:=-1) (b:=b192) (n:=301) hT (by decide) kn8) rfl rfl ?_
   rintro _ _ ⟨a25,c25,jo25,segs25,rfl,rfl⟩
   refine TL.move hF rfl rfl ?_
   refine TL.extract hF rfl rfl rfl ?_
   refine TL.extract hF rfl rfl rfl ?_
   refine TL.alloc hF rfl (fun b32=>?_)
   refine TL.storeAs hF [.slice a25 0 c25,.int .i64 jo25] [.slice a25 0 c25,.int .i64 jo25] 0 (cs:=[.slice none 0 0,.int .i64 0]) rfl rfl rfl rfl (by simp [Value.oneCell']) (Nat.le_refl 2) rfl ?_
   refine TL.hsub η (List.Sublist.cons _ (List.sublist_append_right _ _)) ?_
   refine TL.assign hF rfl rfl ?_
   refine TL.nil ?_
   refine TQ.then_n ?_
   refine T.seq ?_
   refine T.region ?_
   refine TL.makeSlice hF (k:=300) rfl rfl rfl (by decide) (by decide) rfl (fun b197=>?_)
   refine TL.buildSlice hF rfl (cs:=#[.int .i64 2147483648]) (e:=3) (fun w=>by kernel_rfl) rfl (fun b198=>?_)
   refine TL.append hF 1 rfl rfl rfl (osl_fresh (e:=3) (sz:=1) (n:=300) (b:=b197) (xs:=List.replicate 300 (.int .i64 0)) List.length_replicate) (row_own (cs:=[.int .i64 2147483648]) (e:=3) (b:=b198) List.mem_cons_self).src rfl rfl (by simp [Value.oneCell']) (by decide) (by decide) rfl (fun pa pc pg ph=>?_)
   refine TL.hsub (pg::η) (List.sublist_cons_self _ _) ?_
   refine TL.call hF (Queue_app (f:=0) (n:=300) (x:=2147483648) (c:=pc) hT (by decide) (ph.row (by simp)) kn9) rfl rfl ?_
   rintro _ _ ⟨a26,c26,jo26,segs26,rfl,rfl⟩
   refine TL.move hF rfl rfl ?_
   refine TL.extract hF rfl rfl rfl ?_
   refine TL.extract hF rfl rfl rfl ?_
   refine TL.alloc hF rfl (fun b34=>?_)
   refine TL.storeAs hF [.slice a26 0 c26,.int .i64 jo26] [.slice a26 0 c26,.int .i64 jo26] 0 (cs:=[.slice none 0 0,.int .i64 0]) rfl rfl rfl rfl (by simp [Value.oneCell']) (Nat.le_refl 2) rfl ?_
   refine TL.hsub η (List.Sublist.cons _ (List.sublist_append_right _ _)) ?_
   refine TL.assign hF rfl rfl ?_
   refine TL.nil ?_
   refine TQ.then_n ?_
   refine T.seq ?_
   refine T.region ?_
   refine TL.buildSlice hF rfl (cs:=#[.int .i64 2147483648]) (e:=3) (fun w=>by kernel_rfl) rfl (fun b204=>?_)
   refine TL.call hF (Queue_own (f:=0) (ops:=[2147483648]) (c:=1) hT (row_own (cs:=ints [2147483648]) (e:=3) (b:=b204) (by simp [ints])) (by decide) kn10) rfl rfl ?_
   rintro _ _ ⟨a27,c27,jo27,segs27,rfl,rfl⟩
   refine TL.move hF rfl rfl ?_
   refine TL.extract hF rfl rfl rfl ?_
   refine TL.extract hF rfl rfl rfl ?_
   refine TL.alloc hF rfl (fun b36=>?_)
   refine TL.storeAs hF [.slice a27 0 c27,.int .i64 jo27] [.slice a27 0 c27,.int .i64 jo27] 0 (cs:=[.slice none 0 0,.int .i64 0]) rfl rfl rfl rfl (by simp [Value.oneCell']) (Nat.le_refl 2) rfl ?_
   refine TL.hsub η (List.Sublist.cons _ (List.sublist_append_right _ _)) ?_
   refine TL.assign hF rfl rfl ?_
   refine TL.nil ?_
   refine TQ.then_n ?_
   refine T.seq ?_
   refine T.region ?_
   refine TL.buildSlice hF rfl (cs:=#[.int .i64 (-2147483650)]) (e:=3) (fun w=>by kernel_rfl) rfl (fun b209=>?_)
   refine TL.call hF (Queue_own (f:=0) (ops:=[-2147483650]) (c:=1) hT (row_own (cs:=ints [-2147483650]) (e:=3) (b:=b209) (by simp [ints])) (by decide) kn11) rfl rfl ?_
   rintro _ _ ⟨a28,c28,jo28,segs28,rfl,rfl⟩
   refine TL.move hF rfl rfl ?_
   refine TL.extract hF rfl rfl rfl ?_
   refine TL.extract hF rfl rfl rfl ?_
   refine TL.alloc hF rfl (fun b38=>?_)
   refine TL.storeAs hF [.slice a28 0 c28,.int .i64 jo28] [.slice a28 0 c28,.int .i64 jo28] 0 (cs:=[.slice none 0 0,.int .i64 0]) rfl rfl rfl rfl (by simp [Value.oneCell']) (Nat.le_refl 2) rfl ?_
   refine TL.hsub η (List.Sublist.cons _ (List.sublist_append_right _ _)) ?_
   refine TL.assign hF rfl rfl ?_
   refine TL.nil ?_
   refine TQ.then_n ?_
   refine T.seq ?_
   refine T.seq ?_
   refine T.region ?_
   refine TL.move hF rfl rfl ?_
   refine TL.bin hF rfl rfl rfl rfl ?_
   refine TL.move hF rfl rfl ?_
   refine TL.on rfl rfl rfl (by decide) ?_
   refine TL.move hF rfl rfl ?_
   refine TL.on rfl rfl rfl (by decide) ?_
   refine TL.bin hF rfl rfl rfl rfl ?_
   refine TL.pickF hF rfl (by decide) rfl rfl ?_
   refine TL.move hF rfl rfl ?_
   refine TL.on rfl rfl rfl (by decide) ?_
   refine TL.move hF rfl rfl ?_
   refine TL.on rfl rfl rfl (by decide) ?_
   refine TL.bin hF rfl rfl rfl rfl ?_
   refine TL.pickF hF rfl (by decide) rfl rfl ?_
   refine TL.move hF rfl rfl ?_
   refine TL.on rfl rfl rfl (by decide) ?_
   refine TL.move hF rfl rfl ?_
   refine TL.on rfl rfl rfl (by decide) ?_
   refine TL.bin hF rfl rfl rfl rfl ?_
   refine TL.pickF hF rfl (by decide) rfl rfl ?_
   refine TL.move hF rfl rfl ?_
   refine TL.on rfl rfl rfl (by decide) ?_
   refine TL.move hF rfl rfl ?_
   refine TL.on rfl rfl rfl (by decide) ?_
   refine TL.bin hF rfl rfl rfl rfl ?_
   refine TL.pickF hF rfl (by decide) rfl rfl ?_
   refine TL.move hF rfl rfl ?_
   refine TL.on rfl rfl rfl (by decide) ?_
   refine TL.move hF rfl rfl ?_
   refine TL.on rfl rfl rfl (by decide) ?_
   refine TL.bin hF rfl rfl rfl rfl ?_
   refine TL.pickF hF rfl (by decide) rfl rfl ?_
   refine TL.move hF rfl rfl ?_
   refine TL.on rfl rfl rfl (by decide) ?_
   refine TL.move hF rfl rfl ?_
   refine TL.on rfl rfl rfl (by decide) ?_
   refine TL.bin hF rfl rfl rfl rfl ?_
   refine TL.pickF hF rfl (by decide) rfl rfl ?_
   refine TL.move hF rfl rfl ?_
   refine TL.on rfl rfl rfl (by decide) ?_
   refine TL.move hF rfl rfl ?_
   refine TL.on rfl rfl rfl (by decide) ?_
   refine TL.bin hF rfl rfl rfl rfl ?_
   refine TL.pickF hF rfl (by decide) rfl rfl ?_
   refine TL.move hF rfl rfl ?_
   refine TL.on rfl rfl rfl (by decide) ?_
   refine TL.move hF rfl rfl ?_
   refine TL.on rfl rfl rfl (by decide) ?_
   refine TL.bin hF rfl rfl rfl rfl ?_
   refine TL.pickF hF rfl (by decide) rfl rfl ?_
   refine TL.move hF rfl rfl ?_
   refine TL.on rfl rfl rfl (by decide) ?_
   refine TL.move hF rfl rfl ?_
   refine TL.on rfl rfl rfl (by decide) ?_
   refine TL.bin hF rfl rfl rfl rfl ?_
   refine TL.pickF hF rfl (by decide) rfl rfl ?_
   refine TL.move hF rfl rfl ?_
   refine TL.on rfl rfl rfl (by decide) ?_
   refine TL.move hF rfl rfl ?_
   refine TL.on rfl rfl rfl (by decide) ?_
   refine TL.bin hF rfl rfl rfl rfl ?_
   refine TL.pickF hF rfl (by decide) rfl rfl ?_
   refine TL.nil ?_
   refine TQ.then_n ?_
   refine T.cond_f rfl (by decide) ?_
   refine T.skip ?_
   refine TQ.then_n ?_
   refine T.seq ?_
   refine T.region ?_
   refine TL.callV hF (sessions_fn) rfl rfl ?_
   refine TL.call hF (Whole_fn hT seW (a:=none) (l:=[]) (c:=0) Row.none (by decide) (by decide)) rfl rfl ?_
   rintro _ _ ⟨a31,c31,segs31,rfl,_,rfl⟩
   rw [kn12]
   refine TL.hsub η (List.sublist_append_right _ _) ?_
   refine TL.move hF rfl rfl ?_
   refine TL.extract hF rfl rfl rfl ?_
   refine TL.extract hF rfl rfl rfl ?_
   refine TL.assign hF rfl rfl ?_
   refine TL.assign hF rfl rfl ?_
   refine TL.nil ?_
   refine TQ.then_n ?_
   refine T.seq ?_
   refine T.region ?_
   refine TL.callV hF (slides_fn) rfl rfl ?_
   refine TL.call hF (Play_fn hT slW (a:=none) (l:=[]) (c:=0) Row.none (by decide)) rfl rfl ?_
   rintro _ _ ⟨l32,k32,xs32,a32,c32,segs32,rfl,hx32,_,_,rfl⟩
   rw [kn13] at hx32 ⊢
   have hx0:xs32=[]:=List.map_eq_nil_iff.1 hx32
   subst hx0
   refine TL.hsub η (List.sublist_append_right _ _) ?_
   refine TL.move hF rfl rfl ?_
   refine TL.extract hF rfl rfl rfl ?_
   refine TL.extract hF rfl rfl rfl ?_
   refine TL.extract hF rfl rfl rfl ?_
   refine TL.assign hF rfl rfl ?_
   refine TL.assign hF rfl rfl ?_
   refine TL.assign hF rfl rfl ?_
   refine TL.nil ?_
   refine TQ.then_n ?_
   refine T.seq ?_
   refine T.region ?_
   refine TL.callV hF (slides_fn) rfl rfl ?_
   refine TL.call hF (Windows_fn hT slW 0) rfl rfl ?_
   rintro _ _ ⟨a33,c33,segs,rfl,h33,rfl⟩
   rw [kn14] at h33 ⊢
   refine TL.freeze (segs) rfl (fun S3 w3 hz3=>?_)
   replace hb:=hb.frz hz3
   replace hT:=hT.old hz3
   replace hbd:=hbd.old hz3
   replace hwr:=hwr.old hz3
   replace h33:=h33.frz hz3
   refine TL.move hF rfl rfl ?_
   refine TL.extract hF rfl rfl rfl ?_
   refine TL.extract hF rfl rfl rfl ?_
   refine TL.assign hF rfl rfl ?_
   refine TL.assign hF rfl rfl ?_
   refine TL.nil ?_
   refine TQ.then_n ?_
   refine T.seq ?_
   refine T.region ?_
   refine TL.callV hF (sessions_fn) rfl rfl ?_
   refine TL.callV hF (row_fn 10 5 0) rfl rfl ?_
   refine TL.callV hF (row_fn 0 5 0) rfl rfl ?_
   refine TL.callV hF (row_fn 4 5 0) rfl rfl ?_
   refine TL.callV hF (row_fn 7 5 0) rfl rfl ?_
   refine TL.buildSlice hF rfl (cs:=(([⟨10,5,0⟩,⟨0,5,0⟩,⟨4,5,0⟩,⟨7,5,0⟩]:List Rw).flatMap rwC).toArray) (e:=57) (fun w=>by kernel_rfl) rfl (fun b277=>?_)
   have r277:RRow S3 w3 [[(b277,Obj.cells (([⟨10,5,0⟩,⟨0,5,0⟩,⟨4,5,0⟩,⟨7,5,0⟩]:List Rw).flatMap rwC).toArray 57 (0,0))]] (some ⟨b277,0,none⟩) [⟨10,5,0⟩,⟨0,5,0⟩,⟨4,5,0⟩,⟨7,5,0⟩]:=row_own (e:=57) (by simp)
   refine TL.freeze ([[(b277,Obj.cells (([⟨10,5,0⟩,⟨0,5,0⟩,⟨4,5,0⟩,⟨7,5,0⟩]:List Rw).flatMap rwC).toArray 57 (0,0))]]) rfl (fun S4 w4 hz4=>?_)
   replace hb:=hb.frz hz4
   replace hT:=hT.old hz4
   replace hbd:=hbd.old hz4
   replace hwr:=hwr.old hz4
   replace h33:=h33.old hz4
   replace r277:=r277.frz hz4
   refine TL.call hF (Whole_fn hT seW (l:=[⟨10,5,0⟩,⟨0,5,0⟩,⟨4,5,0⟩,⟨7,5,0⟩]) (c:=4) r277 (by decide) (by decide)) rfl rfl ?_
   rintro _ _ ⟨a34,c34,segs,rfl,h34,rfl⟩
   rw [kn15] at h34 ⊢
   refine TL.freeze (segs) rfl (fun S5 w5 hz5=>?_)
   replace hb:=hb.frz hz5
   replace hT:=hT.old hz5
   replace hbd:=hbd.old hz5
   replace hwr:=hwr.old hz5
   replace h33:=h33.old hz5
   replace r277:=r277.old hz5
   replace h34:=h34.frz hz5
   refine TL.move hF rfl rfl ?_
   refine TL.extract hF rfl rfl rfl ?_
   refine TL.extract hF rfl rfl rfl ?_
   refine TL.assign hF rfl rfl ?_
   refine TL.assign hF rfl rfl ?_
   refine TL.nil ?_
   refine TQ.then_n ?_
   refine T.seq ?_
   refine T.region ?_
   refine TL.buildSlice hF rfl (cs:=#[.int .i64 2147483647,.int .i64 1,.int .i64 (-2147483649)]) (e:=3) (fun w=>by kernel_rfl) rfl (fun b282=>?_)
   have r282:Row S5 w5 [[(b282,Obj.cells #[.int .i64 2147483647,.int .i64 1,.int .i64 (-2147483649)] 3 (0,0))]] (some ⟨b282,0,none⟩) (ints [2147483647,1,-2147483649]):=row_own (cs:=[.int .i64 2147483647,.int .i64 1,.int .i64 (-2147483649)]) (e:=3) (by simp)
   refine TL.freeze ([[(b282,Obj.cells #[.int .i64 2147483647,.int .i64 1,.int .i64 (-2147483649)] 3 (0,0))]]) rfl (fun S6 w6 hz6=>?_)
   replace hb:=hb.frz hz6
   replace hT:=hT.old hz6
   replace hbd:=hbd.old hz6
   replace hwr:=hwr.old hz6
   replace h33:=h33.old hz6
   replace h34:=h34.old hz6
   replace r282:=r282.frz hz6
   refine TL.call hF (Queue_fn hT (f:=1) (ops:=[2147483647,1,-2147483649]) (c:=3) r282 (by decide)) rfl rfl ?_
   rintro _ _ ⟨a35,c35,jo35,segs,rfl,h35,_,rfl⟩
   rw [kn16] at h35 ⊢
   refine TL.freeze (segs) rfl (fun S7 w7 hz7=>?_)
   replace hb:=hb.frz hz7
   replace hT:=hT.old hz7
   replace hbd:=hbd.old hz7
   replace hwr:=hwr.old hz7
   replace h33:=h33.old hz7
   replace h34:=h34.old hz7
   replace r282:=r282.old hz7
   replace h35:=h35.frz hz7
   refine TL.move hF rfl rfl ?_
   refine TL.extract hF rfl rfl rfl ?_
   refine TL.extract hF rfl rfl rfl ?_
   refine TL.alloc hF rfl (fun b45=>?_)
   refine TL.storeAs hF [.slice a35 3 c35,.int .i64 jo35] [.slice a35 3 c35,.int .i64 jo35] 0 (cs:=[.slice none 0 0,.int .i64 0]) rfl rfl rfl rfl (by simp [Value.oneCell']) (Nat.le_refl 2) rfl ?_
   refine TL.assign hF rfl rfl ?_
   refine TL.nil ?_
   refine TQ.then_n ?_
   refine T.seq ?_
   refine T.region ?_
   refine TL.build hF rfl (r:=wsV ⟨0,1,1,0,0⟩) (fun w=>by kernel_rfl) rfl ?_
   refine TL.call hF (Windows_fn hT ⟨0,1,1,0,0⟩ 1048576) rfl rfl ?_
   rintro _ _ ⟨a36,c36,segs,rfl,h36,rfl⟩
   rw [kn17] at h36 ⊢
   refine TL.freeze (segs) rfl (fun S8 w8 hz8=>?_)
   replace hb:=hb.frz hz8
   replace hT:=hT.old hz8
   replace hbd:=hbd.old hz8
   replace hwr:=hwr.old hz8
   replace h33:=h33.old hz8
   replace h34:=h34.old hz8
   replace h35:=h35.old hz8
   replace h36:=h36.frz hz8
   refine TL.move hF rfl rfl ?_
   refine TL.extract hF rfl rfl rfl ?_
   refine TL.extract hF rfl rfl rfl ?_
   refine TL.assign hF rfl rfl ?_
   refine TL.assign hF rfl rfl ?_
   refine TL.nil ?_
   refine TQ.then_n ?_
   refine T.seq ?_
   refine T.region ?_
   refine TL.move hF rfl rfl ?_
   refine TL.bin hF rfl rfl rfl rfl ?_
   refine TL.move hF rfl rfl ?_
   refine TL.on rfl rfl rfl (by simp) ?_
   refine TL.move hF rfl rfl ?_
   refine TL.on rfl rfl rfl (by simp) ?_
   refine TL.bin hF rfl rfl rfl rfl ?_
   refine TL.pickT hF rfl (by simp) rfl rfl ?_
   refine TL.move hF rfl rfl ?_
   refine TL.on rfl rfl rfl (by simp) ?_
   refine TL.move hF rfl rfl ?_
   refine TL.on rfl rfl rfl (by simp) ?_
   refine TL.bin hF rfl rfl rfl rfl ?_
   refine TL.pickT hF rfl (by simp) rfl rfl ?_
   refine TL.move hF rfl rfl ?_
   refine TL.on rfl rfl rfl (by simp) ?_
   refine TL.move hF rfl rfl ?_
   refine TL.on rfl rfl rfl (by simp) ?_
   refine TL.bin hF rfl rfl rfl rfl ?_
   refine TL.pickT hF rfl (by simp) rfl rfl ?_
   refine TL.move hF rfl rfl ?_
   refine TL.on rfl rfl rfl (by simp) ?_
   refine TL.move hF rfl rfl ?_
   refine TL.on rfl rfl rfl (by simp) ?_
   refine TL.bin hF rfl rfl rfl rfl ?_
   refine TL.pickT hF rfl (by simp) rfl rfl ?_
   refine TL.move hF rfl rfl ?_
   refine TL.on rfl rfl rfl (by simp) ?_
   refine TL.move hF rfl rfl ?_
   refine TL.on rfl rfl rfl (by simp) ?_
   refine TL.bin hF rfl rfl rfl rfl ?_
   refine TL.pickT hF rfl (by simp) rfl rfl ?_
   refine TL.move hF rfl rfl ?_
   refine TL.on rfl rfl rfl (by simp) ?_
   refine TL.move hF rfl rfl ?_
   refine TL.on rfl rfl rfl (by simp) ?_
   refine TL.len hF rfl rfl ?_
   refine TL.on rfl rfl rfl (by simp) ?_
   refine TL.move hF rfl rfl ?_
   refine TL.on rfl rfl rfl (by simp) ?_
   refine TL.len hF rfl rfl ?_
   refine TL.on rfl rfl rfl (by simp) ?_
   refine TL.add hF rfl rfl (by simp) (by simp) rfl ?_
   refine TL.on rfl rfl rfl (by simp) ?_
   refine TL.move hF rfl rfl ?_
   refine TL.on rfl rfl rfl (by simp) ?_
   refine TL.len hF rfl rfl ?_
   refine TL.on rfl rfl rfl (by simp) ?_
   refine TL.add hF rfl rfl (by simp) (by simp) rfl ?_
   refine TL.on rfl rfl rfl (by simp) ?_
   refine TL.bin hF rfl rfl rfl rfl ?_
   refine TL.pickT hF rfl (by simp) rfl rfl ?_
   refine TL.move hF rfl rfl ?_
   refine TL.on rfl rfl rfl (by simp) ?_
   refine TL.move hF rfl rfl ?_
   refine TL.on rfl rfl rfl (by simp) ?_
   refine TL.len hF rfl rfl ?_
   refine TL.on rfl rfl rfl (by simp) ?_
   refine TL.bin hF rfl rfl rfl rfl ?_
   refine TL.pickT hF rfl (by simp) rfl rfl ?_
   refine TL.move hF rfl rfl ?_
   refine TL.on rfl rfl rfl (by simp) ?_
   refine TL.move hF rfl rfl ?_
   refine TL.on rfl rfl rfl (by simp) ?_
   refine TL.indexAddr hF rfl rfl (h33.tad pC_len (by decide) (i:=0) (by decide)) (by decide) (by decide) rfl ?_
   refine TL.on rfl rfl rfl (by simp) ?_
   refine TL.loadA hF (pC (0,10)) rfl rfl ((h33.up (by simp)).tabA pC_len (i:=0) (by decide)) rfl ?_
   refine TL.on rfl rfl rfl (by simp) ?_
   refine TL.build hF rfl (r:=.agg (pC (0,10)).toArray) (fun w=>by kernel_rfl) rfl ?_
   refine TL.on rfl rfl rfl (by simp) ?_
   refine TL.eqlA hF rfl rfl (by kernel_rfl) (eqP2 (0,10) (0,10)) rfl ?_
   refine TL.pickT hF rfl (by simp) rfl rfl ?_
   refine TL.move hF rfl rfl ?_
   refine TL.on rfl rfl rfl (by simp) ?_
   refine TL.move hF rfl rfl ?_
   refine TL.on rfl rfl rfl (by simp) ?_
   refine TL.len hF rfl rfl ?_
   refine TL.on rfl rfl rfl (by simp) ?_
   refine TL.bin hF rfl rfl rfl rfl ?_
   refine TL.pickT hF rfl (by simp) rfl rfl ?_
   refine TL.move hF rfl rfl ?_
   refine TL.on rfl rfl rfl (by simp) ?_
   refine TL.move hF rfl rfl ?_
   refine TL.on rfl rfl rfl (by simp) ?_
   refine TL.indexAddr hF rfl rfl (h36.tad pC_len (by decide) (i:=0) (by decide)) (by decide) (by decide) rfl ?_
   refine TL.on rfl rfl rfl (by simp) ?_
   refine TL.loadA hF (pC (1048576,1048577)) rfl rfl ((h36.up (by simp)).tabA pC_len (i:=0) (by decide)) rfl ?_
   refine TL.on rfl rfl rfl (by simp) ?_
   refine TL.build hF rfl (r:=.agg (pC (1048576,1048577)).toArray) (fun w=>by kernel_rfl) rfl ?_
   refine TL.on rfl rfl rfl (by simp) ?_
   refine TL.eqlA hF rfl rfl (by kernel_rfl) (eqP2 (1048576,1048577) (1048576,1048577)) rfl ?_
   refine TL.pickT hF rfl (by simp) rfl rfl ?_
   refine TL.assign hF rfl rfl ?_
   refine TL.nil ?_
   refine TQ.then_n ?_
   refine T.seq ?_
   refine T.region ?_
   refine TL.move hF rfl rfl ?_
   refine TL.move hF rfl rfl ?_
   refine TL.on rfl rfl rfl (by simp) ?_
   refine TL.move hF rfl rfl ?_
   refine TL.on rfl rfl rfl (by simp) ?_
   refine TL.callV hF (outL_fn 0 4 5 1) rfl rfl ?_
   refine TL.on rfl rfl rfl (by simp) ?_
   refine TL.callV hF (outL_fn 4 14 5 3) rfl rfl ?_
   refine TL.on rfl rfl rfl (by simp) ?_
   refine TL.buildSlice hF rfl (cs:=(([⟨0,4,5,1⟩,⟨4,14,5,3⟩]:List Ot).flatMap otC).toArray) (e:=59) (fun w=>by kernel_rfl) rfl (fun b353=>?_)
   refine TL.on rfl rfl rfl (by simp) ?_
   refine TL.callV hF (outs_fn (l:=[⟨0,4,5,1⟩,⟨4,14,5,3⟩]) (m:=[⟨0,4,5,1⟩,⟨4,14,5,3⟩]) (h34.up (by simp)) (row_own (cs:=([⟨0,4,5,1⟩,⟨4,14,5,3⟩]:List Ot).flatMap otC) (e:=59) (b:=b353) (by simp)) (by decide)) rfl rfl ?_
   refine TL.pickT hF rfl (by simp) rfl rfl ?_
   refine TL.move hF rfl rfl ?_
   refine TL.on rfl rfl rfl (by simp) ?_
   refine TL.fieldAddr hF rfl rfl ?_
   refine TL.on rfl rfl rfl (by simp) ?_
   refine TL.load hF rfl (show At _ _ _ _ (.slice a35 3 c35) from own_mem (b:=b45) (cs:=([.slice a35 3 c35,.int .i64 jo35]).toArray) (e:=45) (fz:=(0,0)) (by simp) rfl) rfl ?_
   refine TL.on rfl rfl rfl (by simp) ?_
   refine TL.buildSlice hF rfl (cs:=#[.int .i64 2147483647,.int .i64 (-2147483648),.int .i64 1]) (e:=3) (fun w=>by kernel_rfl) rfl (fun b359=>?_)
   refine TL.on rfl rfl rfl (by simp) ?_
   refine TL.callV hF (Equal_fn (xs:=[2147483647,-2147483648,1]) (ys:=[2147483647,-2147483648,1]) (h35.up (by simp)) (row_own (cs:=ints [2147483647,-2147483648,1]) (e:=3) (b:=b359) (by simp [ints])) (by decide)) rfl rfl ?_
   refine TL.pickT hF rfl (by simp) rfl rfl ?_
   refine TL.move hF rfl rfl ?_
   refine TL.pickT hF rfl (by simp) rfl rfl ?_
   refine TL.move hF rfl rfl ?_
   refine TL.on rfl rfl rfl (by simp) ?_
   refine TL.call hF (windowed_law hT) rfl rfl ?_
   rintro _ _ rfl
   refine TL.pickT hF rfl (by simp) rfl rfl ?_
   refine TL.assign hF rfl rfl ?_
   refine TL.nil ?_
   refine TQ.then_n ?_
   refine T.ret ?_
   exact TQ.retsF [0] _ hb rfl rfl rfl (fun _=>rfl)
end Go.Proofs.YtbajelldegijkaaDoor
namespace Go.Proofs.YtbajelldegijkaaDoor
open Go.Sl Go.ChangeShapes Go.WideShapes Go.ChangeAt Go.RowKit
set_option maxRecDepth 100000 in
theorem windowKnown_lifted (os : Os) (started : os.Started) (H : Type) (enc : TypeId × Value → H) :
    ReturnsInHanded {} Tryd.checked os 11 .any (fun w args=>(Rows.windowKnownSpec.pre enc Tryd.prog Tryd.f11 [] false w args∧laidMetH Tryd.prog laidL w)∧sizedMet enc Tryd.prog Tryd.f11 (OpenSpec.ofChange Rows.windowKnownSpec) false w args)
      (Rows.windowKnownSpec.post enc Tryd.prog Tryd.f11 false true false false):=by
  refine returnsInHanded_of_change_and (C:=Tryd.checked) (X:=fun w _=>laidMetH Tryd.prog laidL w) (fun _ _ _ hh h=>h.of_heap hh) Tryd.own started (by kernel_rfl) Tryd.func11
    (ChangeSpec.witness_shaped (enc:=enc) (C:=Tryd.checked) (os:=os) (X:=fun w _=>laidMetH Tryd.prog laidL w) false (World.doorLaid Tryd.prog 2000 os) #[] 8 rfl (World.shaped_of_RefB (by kernel_rfl) (by kernel_rfl)) (by kernel_rfl) (by kernel_rfl) (by kernel_rfl) (door_met os _)) ?_
  intro W base args ds gs before hval0 hW _ hwt hL _
  have hval':∀ (j:Nat) t v,Tryd.f11.params[j]?=some t→args[j]?=some v→Value.okWide Tryd.prog W .any base t v:=hval0
  have hW':=hW
  obtain ⟨p,q,hA0,hV,rfl,hfz,hnd⟩:=hW
  have hA:DataW.TrodAll enc Tryd.prog W 0 (fun _=>true) true [] args.toList ds p:=hA0
  obtain ⟨ha,rfl,rfl⟩:=trodAll_nil hA
  obtain rfl:args = #[]:=by cases args; simpa using ha
  refine (calls_true (WindowKnown_fn (tabs_of_laid hL))).mono fun e W' ⟨he,hw⟩=>⟨_,he,?_⟩
  exact law_post (f:=Tryd.f11) Tryd.laidOut rfl 4 rfl u4 hW' rfl (by decide +kernel) hw
theorem windowKnown_said:Rows.WindowKnownSaid :=
  OpenClaim.holds_of_wide 11 Tryd.f11 rfl rfl rfl rfl rfl rfl rfl ⟨rfl,rfl,rfl,rfl,rfl⟩ rfl rfl rfl rfl rfl (by kernel_rfl) Tryd.func11 (by kernel_rfl)
    (of_decide_eq_true (by kernel_rfl)) (by unfold Func.isWrapper; first | (rw [if_pos (by decide +kernel)]; kernel_rfl) | (rw [if_neg (by decide +kernel)]; exact ⟨rfl,rfl⟩))
    (fun os started H enc _=>windowKnown_lifted os started H enc)
theorem windowKnown_holds:Rows.WindowKnownCardSaid :=
  Claim7.holds_tied_plain_at .later [] [.funcs] true (true, "edd8e981fe4d3e724f26595c5f9106e083d3da54a7e7e8d858f79c443b2db2cc") true
    windowKnown_said (fun _ h=>by cases h) (by kernel_rfl) (fun _ h=>by cases h) windowKnown_row_tie rfl ⟨rfl,rfl⟩ (by kernel_rfl) rfl
    (fun f fn hf hfn=>by
      obtain rfl : f = 11 := Option.some.inj ((show Tryd.prog.funcNamed "deltaworks/deltaworkslaw25.WindowKnown" = some 11 by kernel_rfl).symm.trans hf) |>.symm
      obtain rfl:fn=Tryd.f11:=(Option.some.inj (Tryd.func11.symm.trans hfn)).symm
      exact ⟨by kernel_rfl,fun j t ht=>by
        have ht2:(#[]:Array TypeId)[j]?=some t:=ht
        have hm:t∈([]:List TypeId):=by simpa using Array.mem_of_getElem? ht2
        have hall:(([]:List TypeId).all fun u=>!Tryd.prog.wantsStandIn u)=true:=by kernel_rfl
        exact (show Tryd.prog.wantsStandIn t=false by simpa using List.all_eq_true.1 hall t hm)⟩)
    (by kernel_rfl)
#print axioms windowKnown_holds
end Go.Proofs.YtbajelldegijkaaDoor
